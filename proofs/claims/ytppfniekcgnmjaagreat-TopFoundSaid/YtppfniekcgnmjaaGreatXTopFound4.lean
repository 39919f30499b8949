/- Texts of ours, joined: 24 of them. Conditions: none. -/
import Derived.Test.YtppfniekcgnmjaaGreatXTopFound3
import Derived.Test.YtppfniekcgnmjaaGreatProg
import Derived.Laws.StructEq
namespace Go.Proofs.YtppfniekcgnmjaaGreat.Ti
open Go.Sx Go.RowKit Um
set_option maxRecDepth 20000
theorem k_few (cs hv : List Int) (Ac Ah : Option Addr) (cc ch : Nat) (fpc fph : Nat → Prop) (bc bk bh bf bm : Nat) (hD : DrwOk cs hv) : ∀ (d k : Nat) (s : Int) (w : World) (_ : k + d = cs.length) (_ : 0 ≤ s ∧ s ≤ 2000) (_ : ∀ f ∈ [mpE ekS2 evI bm (knP cs hv)], f.P w ∧ ∀ b, f.fp b → b < w.heap.size) (_ : [mpE ekS2 evI bm (knP cs hv)].Pairwise (fun f g => ∀ b, f.fp b → ¬ g.fp b)) (_ : ∀ g ∈ [ownB bc (cellsB 23 [.slice Ac cs.length cc]), ownB bk (cellsB 132 [.map (some bm)]), ownB bh (cellsB 23 [.slice Ah hv.length ch]), ownB bf (cellsB 133 [.func (.func 66) #[] #[.pointer (some ⟨bc, 0, none⟩), .pointer (some ⟨bk, 0, none⟩), .pointer (some ⟨bh, 0, none⟩), .pointer (some ⟨bf, 0, none⟩)]]), sl fpc 1 enInt Ac cs, sl fph 1 enInt Ah hv], g.P w ∧ ∀ i, g.fp i → i < w.heap.size ∧ ∀ f ∈ [mpE ekS2 evI bm (knP cs hv)], ¬ f.fp i), Calls Tryz.prog 66 #[.agg #[.int .i64 (k : Nat), .int .i64 s], .pointer (some ⟨bc, 0, none⟩), .pointer (some ⟨bk, 0, none⟩), .pointer (some ⟨bh, 0, none⟩), .pointer (some ⟨bf, 0, none⟩)] w (fun e w' => ∃ _ : Unit, e = .returned (.int .i64 (few (cs.drop k) (hv.drop k) s)) ∧ Giv [mpE ekS2 evI bm (knP cs hv)] w w' [mpE ekS2 evI bm (knP cs hv)]) := by
  intro d
  induction d with
  | zero => intro k s w hk hs hO hap hS; exact k_few1 cs hv Ac Ah cc ch fpc fph bc bk bh bf bm k s w hD (by omega) hs hO hap hS (fun h => absurd h (by omega))
  | succ d ih => intro k s w hk hs hO hap hS; exact k_few1 cs hv Ac Ah cc ch fpc fph bc bk bh bf bm k s w hD (by omega) hs hO hap hS (fun _ s w hs hO hap hS => ih (k + 1) s w (by omega) hs hO hap hS)

set_option maxHeartbeats 2000000 in
theorem k_pay (cs hv : List Int) (Ac Ah : Option Addr) (cc ch : Nat) (s : Int) (w : World) (hc : Rd w 1 enInt Ac cs) (hh : Rd w 1 enInt Ah hv) (hD : DrwOk cs hv) (hs : 0 ≤ s ∧ s ≤ 2000) : Calls Tryz.prog 35 #[.slice Ac cs.length cc, .slice Ah hv.length ch, .int .i64 s] w (fun e w' => ∃ A c, e = .returned (.tuple #[.slice A (if few cs hv s < 1073741824 then payL cs hv s else []).length c, .int .i64 (if few cs hv s < 1073741824 then 0 else 4)]) ∧ Grow w w' ∧ Res w w' 1 enInt A (if few cs hv s < 1073741824 then payL cs hv s else [])) := by
  have hl1 := hD.n
  have hl2 := hD.l
  have hlc := hc.len
  refine enter_pure (args := [.slice Ac cs.length cc, .slice Ah hv.length ch, .int .i64 s]) [sl (fun b => b < w.heap.size) 1 enInt Ac cs, sl (fun b => b < w.heap.size) 1 enInt Ah hv] Tryz.func35 rfl (by rw [Tryz.ntmps35]; simp) (fun g hg => by simp at hg; rcases hg with rfl | rfl; exact ⟨hc, fun _ h => h⟩; exact ⟨hh, fun _ h => h⟩) ?_
  refine cj_seq (cj_region ?_)
  refine oj_box rfl rfl rfl (fun b3 => ?_)
  refine oj_box rfl rfl rfl (fun b4 => ?_)
  refine oj_step (y_assign rfl) rfl rfl rfl ?_
  refine oj_step (y_assign rfl) rfl rfl rfl ?_
  refine oj_nil ?_
  refine ej_th (cj_seq (cj_region ?_))
  refine oj_makeMap ekS2 evI rfl (fun b15 => ?_)
  refine oj_alloc Tryz.zeroValue132 rfl rfl (fun b8 => ?_)
  refine oj_store rfl rfl rfl rfl Tryz.sizeOf132 rfl ?_
  refine oj_nil ?_
  refine ej_th (cj_seq (cj_region ?_))
  refine oj_alloc Tryz.zeroValue133 rfl rfl (fun b9 => ?_)
  refine oj_nil ?_
  refine ej_th (cj_seq (cj_region ?_))
  refine oj_step (y_makeFunc rfl rfl) rfl rfl rfl ?_
  refine oj_store rfl rfl rfl rfl Tryz.sizeOf133 rfl ?_
  refine oj_nil ?_
  refine ej_th (cj_seq (cj_region ?_))
  refine oj_step (y_move rfl) rfl rfl rfl ?_
  refine oj_step (y_build (cs := [.int .i64 0, .int .i64 s]) st135 rfl (by kernel_rfl)) rfl rfl rfl ?_
  refine oj_alloc Tryz.zeroValue135 rfl rfl (fun b10 => ?_)
  refine oj_store rfl rfl rfl rfl Tryz.sizeOf135 rfl ?_
  refine oj_nil ?_
  refine ej_th (cj_seq (cj_seq ?_))
  refine cj_mpC (ek := ekS2) (ev := evI) (b := b15) (knP cs hv) (knP_nil cs hv) ?_
  refine cj_region ?_
  refine oj_step (y_load1 Tryz.isAgg133 rfl rfl) rfl rfl rfl ?_
  refine oj_step (y_loadN Tryz.isAgg135 Tryz.sizeOf135 rfl) rfl rfl rfl ?_
  refine oj_callL (X := Unit) (fun _ => .int .i64 (few (cs.drop 0) (hv.drop 0) s)) [mpE ekS2 evI b15 (knP cs hv)] (fun _ => [mpE ekS2 evI b15 (knP cs hv)]) Tryz.call66 rfl rfl (fun w1 hp => by
    obtain ⟨q1, q2, q3⟩ := hp.ownL (Os := [mpE ekS2 evI b15 (knP cs hv)]) inferInstance
    have q4 := hp.ownR (Os := [mpE ekS2 evI b15 (knP cs hv)]) inferInstance
    exact k_few cs hv Ac Ah cc ch (fun b => b < w.heap.size) (fun b => b < w.heap.size) b3 b8 b4 b9 b15 hD (cs.length - 0) 0 s w1 (by omega) ⟨by omega, by omega⟩ q1 q2 (fun g hg => by
      simp only [List.mem_cons, List.mem_nil_iff, or_false] at hg
      rcases hg with rfl | rfl | rfl | rfl | rfl | rfl
      · exact q4 _ HasB.mem
      · exact q4 _ HasB.mem
      · exact q4 _ HasB.mem
      · exact q4 _ HasB.mem
      · exact q3 _ HasSl.mem
      · exact q3 _ HasSl.mem)) rfl (fun _ => ?_)
  dsimp only [List.cons_append, List.nil_append]
  refine oj_step (y_geq rfl rfl) rfl rfl rfl ?_
  refine oj_nil ?_
  refine ej_th ?_
  refine cj_cond rfl (fun h22 => ?_) (fun h22 => ?_)
  · have h22b := h22
    try simp only [sxb] at h22
    refine cj_seq ?_
    refine cj_regionG (gj_step (y_assign rfl) rfl rfl rfl (gj_step (y_assign rfl) rfl rfl rfl (gj_nil ?_)))
    refine ej_th (cj_ret (ej_then_ret ?_))
    have hfs : ¬ few cs hv s < 1073741824 := by have h7 : few (cs.drop 0) (hv.drop 0) s = few cs hv s := rfl; omega
    rw [if_neg hfs, if_neg hfs]
    exact ej_ret2 rfl Tryz.results35 rfl rfl (fun w' hp => ⟨none, 0, rfl, hp.below, Res.nil⟩)
  · have h22b := h22
    try simp only [sxb] at h22
    have hfs : few cs hv s < 1073741824 := by have h7 : few (cs.drop 0) (hv.drop 0) s = few cs hv s := rfl; omega
    refine cj_skip (ej_th (cj_seq ?_))
    skip
    refine cj_regionG (gj_step (y_assign rfl) rfl rfl rfl (gj_nil ?_))
    refine ej_th (cj_seq (cj_seq ?_))
    refine cj_ownNil 3 1 enInt ?_
    refine cj_takes [mpE ekS2 evI b15 (knP cs hv), ow 3 1 enInt none 0 [], ownB b10 (cellsB 135 [.int .i64 (0 : Nat), .int .i64 s]), ownB b9 (cellsB 133 [.func (.func 66) #[] #[.pointer (some ⟨b3, 0, none⟩), .pointer (some ⟨b8, 0, none⟩), .pointer (some ⟨b4, 0, none⟩), .pointer (some ⟨b9, 0, none⟩)]]), ownB b8 (cellsB 132 [.map (some b15)]), ownB b4 (cellsB 23 [.slice Ah hv.length ch]), ownB b3 (cellsB 23 [.slice Ac cs.length cc])] ?_
    refine cj_regionG (gj_step (y_load1 Tryz.isAgg23 rfl rfl) rfl rfl rfl (gj_step (y_lenA Tryz.underlying23 rfl) rfl rfl rfl (gj_step (y_move rfl) rfl rfl rfl (gj_nil ?_))))
    refine ej_th (cj_block ?_)
    refine cj_lpi (X := Nat × Int × List Int × Option Addr × Nat) [(4, _), (6, _), (7, _), (9, _), (10, _), (23, _), (24, _)] (fun ⟨k, u, out, Ao, co⟩ => k ≤ cs.length ∧ (0 ≤ u ∧ u ≤ 2000) ∧ few (cs.drop k) (hv.drop k) u < 1073741824 ∧ out ++ payL (cs.drop k) (hv.drop k) u = payL cs hv s ∧ out.length = k) (fun ⟨k, u, out, Ao, co⟩ => [(25, .int .i64 (k : Nat)), (11, .slice Ao out.length co)]) (fun ⟨k, u, out, Ao, co⟩ => [mpE ekS2 evI b15 (knP cs hv), ow 3 1 enInt Ao co out, ownB b10 (cellsB 135 [.int .i64 (k : Nat), .int .i64 u]), ownB b9 (cellsB 133 [.func (.func 66) #[] #[.pointer (some ⟨b3, 0, none⟩), .pointer (some ⟨b8, 0, none⟩), .pointer (some ⟨b4, 0, none⟩), .pointer (some ⟨b9, 0, none⟩)]]), ownB b8 (cellsB 132 [.map (some b15)]), ownB b4 (cellsB 23 [.slice Ah hv.length ch]), ownB b3 (cellsB 23 [.slice Ac cs.length cc])]) (fun ⟨k, u, out, Ao, co⟩ => [sl (fun b => b < w.heap.size) 1 enInt Ac cs, sl (fun b => b < w.heap.size) 1 enInt Ah hv]) (fun ⟨k, u, out, Ao, co⟩ => cs.length - k) (0, s, [], none, 0) (⟨Nat.zero_le _, hs, hfs, rfl, rfl⟩) ⟨rfl, rfl, rfl, rfl, rfl, rfl, rfl, rfl, rfl, trivial⟩ ?_
    rintro ⟨k, u, out, Ao, co⟩ ⟨hk, hub, hfu, hso, hlo⟩
    dsimp only [List.cons_append, List.nil_append]
    refine cj_seq ?_
    refine cj_regionG (gj_step (y_lss rfl rfl) rfl rfl rfl (gj_nil ?_))
    refine ej_th (cj_seq ?_)
    refine cj_cond rfl (fun h26 => ?_) (fun h26 => ?_)
    · have h26b := h26
      try simp only [sxb] at h26
      obtain ⟨c, hcx⟩ : ∃ c, cs[k]? = some c := ⟨_, List.getElem?_eq_getElem (by omega)⟩
      obtain ⟨h, hhx⟩ : ∃ h, hv[k]? = some h := ⟨_, List.getElem?_eq_getElem (by omega)⟩
      have hcb := hD.c c (List.mem_of_getElem? hcx)
      have hhb := hD.h h (List.mem_of_getElem? hhx)
      have hmm := most_eq (c := c) (h := h) (s := u) hhb.1 hcb.1 hub.1
      have hmb := most_bd (c := c) (h := h) (s := u) hcb.1 hhb.1 hub.1
      have hq0 := Int.ediv_nonneg hub.1 (show 0 ≤ c by omega)
      have hfa := few_at u hcx hhx
      obtain ⟨m, hm1, hm2⟩ := fewB_att (by rw [← hfa]; exact hfu)
      rw [← hfa] at hm2
      have hpa := pay_at u hcx hhx
      refine cj_skip (ej_th (cj_seq (cj_block (cj_seq ?_))))
      refine cj_regionG (gj_step (y_move rfl) rfl rfl rfl (gj_step (y_ixR (reads_sl) Tryz.underlying23 Tryz.sizeOf3 rfl rfl (⟨by omega, by omega⟩)) rfl rfl rfl (gj_step (y_ld0 (reads_sl) Tryz.isAgg3 rfl (hcx) rfl) rfl rfl rfl (gj_step (y_assign rfl) rfl rfl rfl (gj_step (y_assign rfl) rfl rfl rfl (gj_nil ?_))))))
      refine ej_th (cj_seq ?_)
      refine cj_draw (by kernel_rfl) (by kernel_rfl) (gj_step (y_load1 Tryz.isAgg23 rfl rfl) rfl rfl rfl (gj_step (y_move rfl) rfl rfl rfl (gj_step (y_ixR (reads_sl) Tryz.underlying23 Tryz.sizeOf3 rfl rfl (⟨by omega, by omega⟩)) rfl rfl rfl (gj_step (y_ld0 (reads_sl) Tryz.isAgg3 rfl (hhx) rfl) rfl rfl rfl (gj_step (y_fa fa135_1 rfl) rfl rfl rfl (gj_step (y_load1 Tryz.isAgg3 rfl rfl) rfl rfl rfl (gj_step (y_move rfl) rfl rfl rfl (gj_step (y_quo rfl rfl (⟨by omega, by omega, by omega⟩)) rfl rfl rfl (gj_step (y_min rfl rfl) rfl rfl rfl (gj_step (y_assign rfl) rfl rfl rfl (gj_nil ?_)))))))))))
      refine ej_th (cj_seq (cj_block ?_))
      rw [show min h (u / c) = ((mostN c h u : Nat) : Int) from hmm.symm]
      refine cj_lpic (X := Nat) [(25, _), (11, _), (4, _), (6, _), (7, _), (9, _), (10, _), (23, _), (24, _), (12, _), (13, _)] (fun n => n ≤ mostN c h u ∧ m ≤ n ∧ descN (few (cs.drop (k + 1)) (hv.drop (k + 1))) c u (few (cs.drop k) (hv.drop k) u) (mostN c h u) = descN (few (cs.drop (k + 1)) (hv.drop (k + 1))) c u (few (cs.drop k) (hv.drop k) u) n) (fun n => [(14, .int .i64 (n : Nat))]) (fun n => n) (mostN c h u) (⟨Nat.le_refl _, by omega, rfl⟩) ⟨rfl, rfl, rfl, rfl, rfl, rfl, rfl, rfl, rfl, rfl, rfl, rfl, trivial⟩ ?_
      rintro n ⟨hn, hmn, hsn⟩
      dsimp only [List.cons_append, List.nil_append]
      have hnc : (n : Int) * c ≤ (mostN c h u : Int) * c := Int.mul_le_mul_of_nonneg_right (by omega) (by omega)
      have hn0 : 0 ≤ (n : Int) * c := Int.mul_nonneg (by omega) (by omega)
      have hf0 := few_nn (cs.drop (k + 1)) (hv.drop (k + 1)) (u - (n : Nat) * c)
      have hf1 := few_le (cs.drop (k + 1)) (hv.drop (k + 1)) (u - (n : Nat) * c)
      have hg0 := few_nn (cs.drop k) (hv.drop k) u
      refine cj_seq ?_
      refine cj_cutic (X := Unit) [(14, _), (25, _), (11, _), (4, _), (6, _), (7, _), (9, _), (10, _), (23, _), (24, _), (12, _), (13, _)] ⟨rfl, rfl, rfl, rfl, rfl, rfl, rfl, rfl, rfl, rfl, rfl, rfl, trivial⟩ (fun _ => True) (fun _ => [(55, .bool (((n : Nat) : Int) + few (cs.drop (k + 1)) (hv.drop (k + 1)) (u - (n : Nat) * c) != (few (cs.drop k) (hv.drop k) u)))]) ?_ ?_
      · refine cj_plan 17 (by kernel_rfl) (by kernel_rfl) ?_
        refine pl_y 0 rfl (y_move rfl) rfl rfl rfl rfl (by kernel_rfl) ?_
        refine pl_y 1 rfl (y_load1 Tryz.isAgg133 rfl rfl) rfl rfl rfl rfl (by kernel_rfl) ?_
        refine pl_y 2 rfl (y_move rfl) rfl rfl rfl rfl (by kernel_rfl) ?_
        refine pl_y 3 rfl (y_add rfl rfl (by omega)) rfl rfl rfl rfl (by kernel_rfl) ?_
        refine pl_y 4 rfl (y_fa fa135_1 rfl) rfl rfl rfl rfl (by kernel_rfl) ?_
        refine pl_y 5 rfl (y_load1 Tryz.isAgg3 rfl rfl) rfl rfl rfl rfl (by kernel_rfl) ?_
        refine pl_y 6 rfl (y_move rfl) rfl rfl rfl rfl (by kernel_rfl) ?_
        refine pl_y 7 rfl (y_move rfl) rfl rfl rfl rfl (by kernel_rfl) ?_
        refine pl_y 8 rfl (y_mul rfl rfl (by omega)) rfl rfl rfl rfl (by kernel_rfl) ?_
        refine pl_y 9 rfl (y_sub rfl rfl (by omega)) rfl rfl rfl rfl (by kernel_rfl) ?_
        refine pl_y 10 rfl (y_build (cs := [.int .i64 ((k : Nat) + 1), .int .i64 (u - (n : Nat) * c)]) st135 rfl (by kernel_rfl)) rfl rfl rfl rfl (by kernel_rfl) ?_
        refine pl_y 13 rfl (y_load1 Tryz.isAgg133 rfl rfl) rfl rfl rfl rfl (by kernel_rfl) ?_
        refine pl_y 14 rfl (y_loadN Tryz.isAgg135 Tryz.sizeOf135 rfl) rfl rfl rfl rfl (by kernel_rfl) ?_
        refine pl_w1 11 (by kernel_rfl) rfl rfl (pl_fire rfl rfl rfl (by kernel_rfl) ?_)
        refine oj_callL (X := Unit) (fun _ => .int .i64 (few (cs.drop (k + 1)) (hv.drop (k + 1)) (u - (n : Nat) * c))) [mpE ekS2 evI b15 (knP cs hv)] (fun _ => [mpE ekS2 evI b15 (knP cs hv)]) Tryz.call66 rfl rfl (fun w1 hp => by
          obtain ⟨q1, q2, q3⟩ := hp.ownL (Os := [mpE ekS2 evI b15 (knP cs hv)]) inferInstance
          have q4 := hp.ownR (Os := [mpE ekS2 evI b15 (knP cs hv)]) inferInstance
          rw [show ((k : Nat) : Int) + 1 = ((k + 1 : Nat) : Int) by omega]
          exact k_few cs hv Ac Ah cc ch (fun b => b < w.heap.size) (fun b => b < w.heap.size) b3 b8 b4 b9 b15 hD (cs.length - (k + 1)) (k + 1) (u - (n : Nat) * c) w1 (by omega) ⟨by omega, by omega⟩ q1 q2 (fun g hg => by
            simp only [List.mem_cons, List.mem_nil_iff, or_false] at hg
            rcases hg with rfl | rfl | rfl | rfl | rfl | rfl
            · exact q4 _ HasB.mem
            · exact q4 _ HasB.mem
            · exact q4 _ HasB.mem
            · exact q4 _ HasB.mem
            · exact q3 _ HasSl.mem
            · exact q3 _ HasSl.mem)) rfl (fun _ => ?_)
        dsimp only [List.cons_append, List.nil_append]
        refine oj_nil ?_
        refine ej_pl (lt_y (y_loadN Tryz.isAgg135 Tryz.sizeOf135 rfl) rfl (lt_y (y_load1 Tryz.isAgg133 rfl rfl) rfl (lt_w (by kernel_rfl) (lt_y (y_sub rfl rfl (by omega)) rfl (lt_y (y_mul rfl rfl (by omega)) rfl (lt_y (y_move rfl) rfl (lt_y (y_move rfl) rfl (lt_y (y_load1 Tryz.isAgg3 rfl rfl) rfl (lt_y (y_fa fa135_1 rfl) rfl (lt_y (y_add rfl rfl (by omega)) rfl (lt_y (y_move rfl) rfl (lt_w (by kernel_rfl) (lt_y (y_move rfl) rfl (lt_nil)))))))))))))) ?_
        refine pl_y 12 rfl (y_add rfl rfl (by omega)) rfl rfl rfl rfl (by kernel_rfl) ?_
        refine pl_w1 15 (by kernel_rfl) rfl rfl (pl_fire rfl rfl rfl (by kernel_rfl) ?_)
        refine oj_callL (X := Unit) (fun _ => .int .i64 (few (cs.drop k) (hv.drop k) u)) [mpE ekS2 evI b15 (knP cs hv)] (fun _ => [mpE ekS2 evI b15 (knP cs hv)]) Tryz.call66 rfl rfl (fun w1 hp => by
          obtain ⟨q1, q2, q3⟩ := hp.ownL (Os := [mpE ekS2 evI b15 (knP cs hv)]) inferInstance
          have q4 := hp.ownR (Os := [mpE ekS2 evI b15 (knP cs hv)]) inferInstance
          exact k_few cs hv Ac Ah cc ch (fun b => b < w.heap.size) (fun b => b < w.heap.size) b3 b8 b4 b9 b15 hD (cs.length - k) k u w1 (by omega) ⟨by omega, by omega⟩ q1 q2 (fun g hg => by
            simp only [List.mem_cons, List.mem_nil_iff, or_false] at hg
            rcases hg with rfl | rfl | rfl | rfl | rfl | rfl
            · exact q4 _ HasB.mem
            · exact q4 _ HasB.mem
            · exact q4 _ HasB.mem
            · exact q4 _ HasB.mem
            · exact q3 _ HasSl.mem
            · exact q3 _ HasSl.mem)) rfl (fun _ => ?_)
        dsimp only [List.cons_append, List.nil_append]
        refine oj_nil ?_
        refine ej_pl (lt_y (y_add rfl rfl (by omega)) rfl (lt_w (by kernel_rfl) (lt_w (by kernel_rfl) (lt_y (y_build (cs := [.int .i64 ((k : Nat) + 1), .int .i64 (u - (n : Nat) * c)]) st135 rfl (by kernel_rfl)) rfl (lt_y (y_sub rfl rfl (by omega)) rfl (lt_y (y_mul rfl rfl (by omega)) rfl (lt_y (y_move rfl) rfl (lt_y (y_move rfl) rfl (lt_y (y_load1 Tryz.isAgg3 rfl rfl) rfl (lt_y (y_fa fa135_1 rfl) rfl (lt_y (y_add rfl rfl (by omega)) rfl (lt_y (y_move rfl) rfl (lt_y (y_load1 Tryz.isAgg133 rfl rfl) rfl (lt_y (y_move rfl) rfl (lt_nil))))))))))))))) ?_
        refine pl_y 16 rfl (y_neq rfl rfl) rfl rfl rfl rfl (by kernel_rfl) ?_
        refine pl_end (by kernel_rfl) ?_
        exact ej_ct () trivial ⟨rfl, rfl, rfl, rfl, rfl, rfl, rfl, rfl, rfl, rfl, rfl, rfl, rfl, trivial⟩
      · rintro ⟨⟩ -
        dsimp only [List.cons_append, List.nil_append]
        refine cj_cond rfl (fun h55 => ?_) (fun h55 => ?_)
        · have h55b := h55
          try simp only [sxb] at h55
          have hn1 : 1 ≤ n := by
            by_cases e : n = 0
            · subst e
              have : m = 0 := by omega
              subst this
              exact absurd hm2 h55
            · omega
          refine cj_skip (ej_th (cj_block ?_))
          refine cj_regionG (gj_step (y_move rfl) rfl rfl rfl (gj_step (y_sub rfl rfl (by omega)) rfl rfl rfl (gj_step (y_assign rfl) rfl rfl rfl (gj_nil ?_))))
          refine ej_blk ?_
          rw [show ((n : Nat) : Int) - 1 = ((n - 1 : Nat) : Int) by omega]
          exact ej_nx (n - 1) (by omega) ⟨by omega, by by_cases e : m = n; exact absurd (by rw [← e]; exact hm2) h55; omega, by rw [hsn]; exact descN_down h55⟩ ⟨rfl, rfl, rfl, rfl, rfl, rfl, rfl, rfl, rfl, rfl, rfl, rfl, trivial⟩
        · have h55b := h55
          try simp only [sxb] at h55
          have heq : ((n : Nat) : Int) + few (cs.drop (k + 1)) (hv.drop (k + 1)) (u - (n : Nat) * c) = (few (cs.drop k) (hv.drop k) u) := by omega
          rw [hsn, descN_stop heq] at hpa
          refine cj_exit (ej_then_exit (ej_then_exit (ej_blk_hit (ej_th ?_))))
          refine cj_plan 15 (by kernel_rfl) (by kernel_rfl) ?_
          refine pl_y 0 rfl (y_move rfl) rfl rfl rfl rfl (by kernel_rfl) ?_
          refine pl_y 1 rfl (y_move rfl) rfl rfl rfl rfl (by kernel_rfl) ?_
          refine pl_y 4 rfl (y_move rfl) rfl rfl rfl rfl (by kernel_rfl) ?_
          refine pl_y 5 rfl (y_add rfl rfl (by omega)) rfl rfl rfl rfl (by kernel_rfl) ?_
          refine pl_y 6 rfl (y_fa fa135_1 rfl) rfl rfl rfl rfl (by kernel_rfl) ?_
          refine pl_y 7 rfl (y_load1 Tryz.isAgg3 rfl rfl) rfl rfl rfl rfl (by kernel_rfl) ?_
          refine pl_y 8 rfl (y_move rfl) rfl rfl rfl rfl (by kernel_rfl) ?_
          refine pl_y 9 rfl (y_move rfl) rfl rfl rfl rfl (by kernel_rfl) ?_
          refine pl_y 10 rfl (y_mul rfl rfl (by omega)) rfl rfl rfl rfl (by kernel_rfl) ?_
          refine pl_y 11 rfl (y_sub rfl rfl (by omega)) rfl rfl rfl rfl (by kernel_rfl) ?_
          refine pl_y 12 rfl (y_build (cs := [.int .i64 ((k : Nat) + 1), .int .i64 (u - (n : Nat) * c)]) st135 rfl (by kernel_rfl)) rfl rfl rfl rfl (by kernel_rfl) ?_
          refine pl_w1 2 (by kernel_rfl) rfl rfl (pl_fire rfl rfl rfl (by kernel_rfl) ?_)
          refine oj_buildSlice (cs := [.int .i64 (n : Nat)]) [.int .i64 0] Tryz.underlying23 Tryz.sizeOf3 Tryz.zeroValue3 rfl rfl (by kernel_rfl) (by kernel_rfl) rfl (fun b60 => ?_)
          refine oj_nil ?_
          refine ej_pl (lt_y (y_build (cs := [.int .i64 ((k : Nat) + 1), .int .i64 (u - (n : Nat) * c)]) st135 rfl (by kernel_rfl)) rfl (lt_y (y_sub rfl rfl (by omega)) rfl (lt_y (y_mul rfl rfl (by omega)) rfl (lt_y (y_move rfl) rfl (lt_y (y_move rfl) rfl (lt_y (y_load1 Tryz.isAgg3 rfl rfl) rfl (lt_y (y_fa fa135_1 rfl) rfl (lt_y (y_add rfl rfl (by omega)) rfl (lt_y (y_move rfl) rfl (lt_w (by kernel_rfl) (lt_y (y_move rfl) rfl (lt_nil)))))))))))) ?_
          refine pl_w1 3 (by kernel_rfl) rfl rfl (pl_fire rfl rfl rfl (by kernel_rfl) ?_)
          refine oj_append  el23 (fun _ => rfl) enInt_one rfl rfl rfl (reads_lit [((n : Nat) : Int)] (fun _ => rfl) rfl) (by unfold maxLen; simp only [List.length_cons, List.length_nil]; omega) (by simp only [List.length_cons, List.length_nil]; omega) rfl (fun A61 c61 => ?_)
          refine oj_nil ?_
          refine ej_pl (lt_y (y_build (cs := [.int .i64 ((k : Nat) + 1), .int .i64 (u - (n : Nat) * c)]) st135 rfl (by kernel_rfl)) rfl (lt_y (y_sub rfl rfl (by omega)) rfl (lt_y (y_mul rfl rfl (by omega)) rfl (lt_y (y_move rfl) rfl (lt_y (y_move rfl) rfl (lt_y (y_load1 Tryz.isAgg3 rfl rfl) rfl (lt_y (y_fa fa135_1 rfl) rfl (lt_y (y_add rfl rfl (by omega)) rfl (lt_y (y_move rfl) rfl (lt_y (y_move rfl) rfl (lt_w (by kernel_rfl) (lt_nil)))))))))))) ?_
          refine pl_y 13 rfl (y_assign rfl) rfl rfl rfl rfl (by kernel_rfl) ?_
          refine pl_w1 14 (by kernel_rfl) rfl rfl (pl_fire rfl rfl rfl (by kernel_rfl) ?_)
          refine oj_store rfl rfl rfl rfl Tryz.sizeOf135 rfl ?_
          refine oj_nil ?_
          refine ej_pl (lt_w (by kernel_rfl) (lt_w (by kernel_rfl) (lt_w (by kernel_rfl) (lt_w (by kernel_rfl) (lt_w (by kernel_rfl) (lt_w (by kernel_rfl) (lt_w (by kernel_rfl) (lt_w (by kernel_rfl) (lt_w (by kernel_rfl) (lt_w (by kernel_rfl) (lt_w (by kernel_rfl) (lt_w (by kernel_rfl) (lt_nil))))))))))))) ?_
          refine pl_end (by kernel_rfl) ?_
          refine ej_blk (ej_th ?_)
          refine cj_regionG (gj_step (y_add rfl rfl (by omega)) rfl rfl rfl (gj_step (y_move rfl) rfl rfl rfl (gj_nil ?_)))
          rw [show ((k : Nat) : Int) + 1 = ((k + 1 : Nat) : Int) by omega]
          refine ej_takes [mpE ekS2 evI b15 (knP cs hv), ow 3 1 enInt A61 c61 (out ++ [((n : Nat) : Int)]), ownB b10 (cellsB 135 [.int .i64 ((k + 1) : Nat), .int .i64 (u - (n : Nat) * c)]), ownB b9 (cellsB 133 [.func (.func 66) #[] #[.pointer (some ⟨b3, 0, none⟩), .pointer (some ⟨b8, 0, none⟩), .pointer (some ⟨b4, 0, none⟩), .pointer (some ⟨b9, 0, none⟩)]]), ownB b8 (cellsB 132 [.map (some b15)]), ownB b4 (cellsB 23 [.slice Ah hv.length ch]), ownB b3 (cellsB 23 [.slice Ac cs.length cc])] ?_
          exact ej_nx (k + 1, (u - (n : Nat) * c), out ++ [((n : Nat) : Int)], A61, c61) (by first | omega | (simp only; omega)) ⟨by first | omega | (simp only; omega), ⟨by first | omega | (simp only; omega), by first | omega | (simp only; omega)⟩, by first | omega | (simp only; omega), by rw [← hso, hpa, List.append_assoc]; rfl, by simp only [List.length_append, List.length_cons, List.length_nil]; omega⟩ ⟨rfl, rfl, rfl, rfl, rfl, rfl, rfl, rfl, rfl, trivial⟩
    · have h26b := h26
      try simp only [sxb] at h26
      refine cj_exit (ej_then_exit (ej_then_exit (ej_blk_hit (ej_th (cj_seq ?_)))))
      refine cj_regionG (gj_step (y_move rfl) rfl rfl rfl (gj_step (y_assign rfl) rfl rfl rfl (gj_step (y_assign rfl) rfl rfl rfl (gj_nil ?_))))
      refine ej_th (cj_ret ?_)
      have hkn : k = cs.length := by omega
      have hpo : out = payL cs hv s := by rw [← hso, hkn, List.drop_of_length_le (Nat.le_refl _), payL, List.append_nil]
      subst hpo
      rw [if_pos hfs, if_pos hfs]
      exact ej_ret2 rfl Tryz.results35 rfl rfl (fun w' hp => ⟨Ao, co, rfl, hp.below, hp.res enInt_len (by unfold maxLen; omega)⟩)

theorem k_Pay (cs hv : List Int) (Ac Ah : Option Addr) (cc ch : Nat) (s : Int) (w : World) (hc : Rd w 1 enInt Ac cs) (hh : Rd w 1 enInt Ah hv) : Calls Tryz.prog 10 #[.agg #[.slice Ac cs.length cc, .slice Ah hv.length ch], .int .i64 s] w (fun e w' => ∃ A c, e = .returned (.tuple #[.slice A (PayL cs hv s).length c, .int .i64 (PayE cs hv s)]) ∧ Grow w w' ∧ Res w w' 1 enInt A (PayL cs hv s)) := by
  refine enter_pure (args := [.agg #[.slice Ac cs.length cc, .slice Ah hv.length ch], .int .i64 s]) [sl (fun b => b < w.heap.size) 1 enInt Ac cs, sl (fun b => b < w.heap.size) 1 enInt Ah hv] Tryz.func10 rfl (by rw [Tryz.ntmps10]; simp) (fun g hg => by simp at hg; rcases hg with rfl | rfl; exact ⟨hc, fun _ h => h⟩; exact ⟨hh, fun _ h => h⟩) ?_
  refine cj_seq (cj_region ?_)
  refine oj_box rfl rfl rfl (fun b2 => ?_)
  refine oj_step (y_assign rfl) rfl rfl rfl ?_
  refine oj_step (y_assign rfl) rfl rfl rfl ?_
  refine oj_nil ?_
  refine ej_th (cj_seq (cj_seq ?_))
  refine cj_regionG ?_
  refine gj_step (y_loadN Tryz.isAgg25 Tryz.sizeOf25 rfl) rfl rfl rfl (?_)
  refine gj_step (y_call Tryz.call33 rfl (fun w hp => k_Check cs hv Ac Ah cc ch w hp.rd hp.rd)) rfl rfl rfl ?_
  refine gj_step (y_assign rfl) rfl rfl rfl (?_)
  refine gj_nil ?_
  refine ej_th (cj_seq ?_)
  refine cj_regionG (gj_step (y_move rfl) rfl rfl rfl (gj_step (y_neq rfl rfl) rfl rfl rfl (gj_nil ?_)))
  refine ej_th ?_
  refine cj_cond rfl (fun h10 => ?_) (fun h10 => ?_)
  · have h10b := h10
    try simp only [sxb] at h10
    have hdb : drwB cs hv = false := by cases e : drwB cs hv with
      | false => rfl
      | true => rw [CheE, e] at h10; exact absurd rfl h10
    refine cj_seq ?_
    refine cj_regionG (gj_step (y_move rfl) rfl rfl rfl (gj_step (y_assign rfl) rfl rfl rfl (gj_step (y_assign rfl) rfl rfl rfl (gj_nil ?_))))
    refine ej_th (cj_ret (ej_then_ret ?_))
    rw [show PayL cs hv s = [] by rw [PayL, PayE, hdb]; rfl, show PayE cs hv s = 80 by rw [PayE, hdb]; rfl, CheE, hdb]
    exact ej_ret2 rfl Tryz.results10 rfl rfl (fun w' hp => ⟨none, 0, rfl, hp.below, Res.nil⟩)
  · have h10b := h10
    try simp only [sxb] at h10
    have hdb : drwB cs hv = true := by cases e : drwB cs hv with
      | true => rfl
      | false => rw [CheE, e] at h10; exact absurd h10 (by decide)
    refine cj_skip (ej_th (cj_seq (cj_seq ?_)))
    refine cj_regionG ?_
    refine gj_step (y_move rfl) rfl rfl rfl (?_)
    refine gj_step (y_call Tryz.call34 rfl (fun w hp => k_within _ _ _ w)) rfl rfl rfl ?_
    refine gj_step (y_not rfl) rfl rfl rfl (?_)
    refine gj_nil ?_
    refine ej_th ?_
    refine cj_cond rfl (fun h14 => ?_) (fun h14 => ?_)
    · have h14b := h14
      try simp only [sxb] at h14
      refine cj_seq ?_
      refine cj_regionG (gj_step (y_assign rfl) rfl rfl rfl (gj_step (y_assign rfl) rfl rfl rfl (gj_nil ?_)))
      refine ej_th (cj_ret (ej_then_ret ?_))
      rw [show PayL cs hv s = [] by rw [PayL, PayE, hdb, not_t h14b]; rfl, show PayE cs hv s = 7 by rw [PayE, hdb, not_t h14b]; rfl]
      exact ej_ret2 rfl Tryz.results10 rfl rfl (fun w' hp => ⟨none, 0, rfl, hp.below, Res.nil⟩)
    · have h14b := h14
      try simp only [sxb] at h14
      have hsb := btw_t (not_f h14b)
      refine cj_skip (ej_th (cj_seq (cj_region ?_)))
      refine oj_step (y_fa0 fa25_0 rfl) rfl rfl rfl ?_
      refine oj_step (y_load1 Tryz.isAgg23 rfl rfl) rfl rfl rfl ?_
      refine oj_step (y_fa fa25_1 rfl) rfl rfl rfl ?_
      refine oj_step (y_load1 Tryz.isAgg23 rfl rfl) rfl rfl rfl ?_
      refine oj_step (y_move rfl) rfl rfl rfl ?_
      refine oj_callS (fun A c => .tuple #[.slice A (if few cs hv s < 1073741824 then payL cs hv s else []).length c, .int .i64 (if few cs hv s < 1073741824 then 0 else 4)]) 1 enInt (if few cs hv s < 1073741824 then payL cs hv s else []) Tryz.call35 rfl (fun w hp => k_pay cs hv Ac Ah cc ch s w hp.rd hp.rd (drw_ok hdb) hsb) rfl (fun A20 c20 fp20 hfp20 => ?_)
      refine oj_step (y_extract rfl rfl) rfl rfl rfl ?_
      refine oj_step (y_extract rfl rfl) rfl rfl rfl ?_
      refine oj_step (y_assign rfl) rfl rfl rfl ?_
      refine oj_step (y_assign rfl) rfl rfl rfl ?_
      refine oj_nil ?_
      refine ej_th (cj_ret ?_)
      have hE : PayE cs hv s = if few cs hv s < 1073741824 then 0 else 4 := by rw [PayE, hdb, not_f h14b]; rfl
      have hL : PayL cs hv s = if few cs hv s < 1073741824 then payL cs hv s else [] := by rw [PayL, hE]; split <;> rfl
      rw [hL, hE]
      exact ej_ret2 rfl Tryz.results10 rfl rfl (fun w' hp => ⟨A20, c20, rfl, hp.below, hp.resS hfp20⟩)

end Go.Proofs.YtppfniekcgnmjaaGreat.Ti
namespace Go.Proofs.YtppfniekcgnmjaaGreat.To
open Go.Sx Go.RowKit
set_option maxRecDepth 20000
theorem eq69 (a0 b0 : Int) (a1 b1 : Int) (x y : Operand) (w : World) : (do eqGuard .eql 69 x y (.agg #[.int .i64 a0, .int .i64 a1]) (.agg #[.int .i64 b0, .int .i64 b1]); binOp .eql 69 (.agg #[.int .i64 a0, .int .i64 a1]) (.agg #[.int .i64 b0, .int .i64 b1]) : Sem Value).run Tryz.prog w = .ok (.bool ((a0 == b0) && (a1 == b1))) w := by
  simp [go_sem, Tryz.eqGuardType69, Tryz.stoodInHeld69, Tryz.underlying69, Tryz.underlying3]
  try ((repeat' split) <;> simp_all)
theorem st105 : StructIs Tryz.prog 105 [(0, 1), (1, 1)] [.int .i64 0, .int .i64 0] := ⟨⟨_, Tryz.underlying105, fun w => by simp [Tryz.sizeOf3], Tryz.zeroValue105⟩⟩
theorem st117 : StructIs Tryz.prog 117 [(0, 1), (1, 1)] [.int .i64 0, .int .i64 0] := ⟨⟨_, Tryz.underlying117, fun w => by simp [Tryz.sizeOf3], Tryz.zeroValue117⟩⟩
theorem st181 : StructIs Tryz.prog 181 [(0, 1), (1, 1), (2, 1)] [.int .i64 0, .int .i64 0, .int .i64 0] := ⟨⟨_, Tryz.underlying181, fun w => by simp [Tryz.sizeOf3], Tryz.zeroValue181⟩⟩
theorem st62 : StructIs Tryz.prog 62 [(0, 1), (1, 1), (2, 1)] [.int .i64 0, .int .i64 0, .slice none 0 0] := ⟨⟨_, Tryz.underlying62, fun w => by simp [Tryz.sizeOf3, Tryz.sizeOf60], Tryz.zeroValue62⟩⟩
theorem st67 : StructIs Tryz.prog 67 [(0, 1), (1, 1), (2, 1)] [.int .i64 0, .int .i64 0, .int .i64 0] := ⟨⟨_, Tryz.underlying67, fun w => by simp [Tryz.sizeOf3], Tryz.zeroValue67⟩⟩
theorem st69 : StructIs Tryz.prog 69 [(0, 1), (1, 1)] [.int .i64 0, .int .i64 0] := ⟨⟨_, Tryz.underlying69, fun w => by simp [Tryz.sizeOf3], Tryz.zeroValue69⟩⟩
end Go.Proofs.YtppfniekcgnmjaaGreat.To
namespace Go.Proofs.YtppfniekcgnmjaaGreat.To
open Go.Sx Go.RowKit
set_option maxRecDepth 20000
theorem st130 : StructIs Tryz.prog 130 [(0, 1), (1, 1)] [.slice none 0 0, .slice none 0 0] := ⟨⟨_, Tryz.underlying130, fun w => by simp [Tryz.sizeOf128, Tryz.sizeOf23], Tryz.zeroValue130⟩⟩
theorem st190 : StructIs Tryz.prog 190 [(0, 1), (1, 1), (2, 1)] [.int .i64 0, .int .i64 0, .int .i64 0] := ⟨⟨_, Tryz.underlying190, fun w => by simp [Tryz.sizeOf3], Tryz.zeroValue190⟩⟩
theorem st193 : StructIs Tryz.prog 193 [(0, 1), (1, 1), (2, 1), (3, 1)] [.int .i64 0, .int .i64 0, .int .i64 0, .slice none 0 0] := ⟨⟨_, Tryz.underlying193, fun w => by simp [Tryz.sizeOf23, Tryz.sizeOf3], Tryz.zeroValue193⟩⟩
theorem st196 : StructIs Tryz.prog 196 [(0, 1), (1, 1), (2, 1)] [.slice none 0 0, .slice none 0 0, .slice none 0 0] := ⟨⟨_, Tryz.underlying196, fun w => by simp [Tryz.sizeOf191, Tryz.sizeOf194, Tryz.sizeOf23], Tryz.zeroValue196⟩⟩
theorem st25 : StructIs Tryz.prog 25 [(0, 1), (1, 1)] [.slice none 0 0, .slice none 0 0] := ⟨⟨_, Tryz.underlying25, fun w => by simp [Tryz.sizeOf23], Tryz.zeroValue25⟩⟩
theorem st91 : StructIs Tryz.prog 91 [(0, 1), (1, 1)] [.int .i64 0, .int .i64 0] := ⟨⟨_, Tryz.underlying91, fun w => by simp [Tryz.sizeOf3], Tryz.zeroValue91⟩⟩
end Go.Proofs.YtppfniekcgnmjaaGreat.To
namespace Go.Proofs.YtppfniekcgnmjaaGreat.To
open Go.Sx Go.RowKit Um
set_option maxRecDepth 20000
abbrev at4 (b : Nat) : Option Addr := some ⟨b, 0, none⟩
theorem c_cod1 : Tk.CodS 1 = ⟨#[48, 48, 48, 48, 48, 48, 48, 49, 57, 53]⟩ := by kernel_rfl
theorem c_ent (p q r s : Nat) : Va.EntV (Va.StrV.mk (at4 p) 2 ([⟨0, 0, 0⟩, ⟨1, 0, 0⟩] : List Vm.RoomV) (at4 q) 1 [Va.GateV.mk 0 1 2 (at4 r) 1 [1]] (at4 s) 2 [1, 0]) 3 = 3 := by kernel_rfl
theorem c_entE (p q r s : Nat) : Va.askE (Va.StrV.mk (at4 p) 2 ([⟨0, 0, 0⟩, ⟨1, 0, 0⟩] : List Vm.RoomV) (at4 q) 1 [Va.GateV.mk 0 1 2 (at4 r) 1 [1]] (at4 s) 2 [1, 0]) 3 = 0 := by kernel_rfl
theorem c_agr : Pl.AgrB [⟨2, 1⟩] [100] [104] = true := by kernel_rfl
theorem c_agrE : Pl.AgrE [⟨2, 1⟩] [100] [104] = 0 := by kernel_rfl
theorem c_most4 : Le.MostN 40 300 5000 400 900 = 300 := by decide
theorem c_mostE4 : Le.MostE 40 300 5000 400 900 = 0 := by decide
theorem c_sell6 : Au.SellV 10 0 [⟨0, 5⟩] [⟨4, 0, 17⟩, ⟨3, 0, 12⟩] = ⟨4, 15⟩ := by kernel_rfl
theorem c_sellE6 : Au.SellE 10 0 [⟨0, 5⟩] [⟨4, 0, 17⟩, ⟨3, 0, 12⟩] = 0 := by kernel_rfl
theorem c_prc (p q r : Nat) : (Au.CloA [0] [Au.ListV.mk (at4 p) 1 [4], Au.ListV.mk (at4 q) 1 [9], Au.ListV.mk (at4 r) 1 [6]]).2 = [6] := by kernel_rfl
theorem c_prcE (p q r : Nat) : Au.cloE [0] [Au.ListV.mk (at4 p) 1 [4], Au.ListV.mk (at4 q) 1 [9], Au.ListV.mk (at4 r) 1 [6]] = 0 := by kernel_rfl
theorem c_pay : Ti.PayL [20, 10, 7, 1] [1, 2, 3, 1] 24 = [0, 1, 2, 0] := by kernel_rfl
theorem c_payE : Ti.PayE [20, 10, 7, 1] [1, 2, 3, 1] 24 = 0 := by kernel_rfl
theorem c_shr8 : Pu.ShrL [6, 3, 1] 5 = [4, 1, 0] := by kernel_rfl
theorem c_shrE8 : Pu.ShrE [6, 3, 1] 5 = 0 := by kernel_rfl

theorem k_returned04  (w : World)  : Calls Tryz.prog 64 #[] w (fun e w' => e = .returned (.bool true) ∧ Grow w w') := by
  refine enter_pure (args := []) [] Tryz.func64 rfl (by rw [Tryz.ntmps64]; simp) (by simp) ?_
  refine cj_seq ?_
  refine cj_regionG (gj_step (y_assign rfl) rfl rfl rfl (gj_nil ?_))
  refine ej_th (cj_seq ?_)
  refine cj_regionG ?_
  refine gj_step (y_call Tryz.call88 rfl (fun w hp => by
    have h := Tk.k_Code 1 w
    rw [c_cod1] at h
    exact h)) rfl rfl rfl ?_
  refine gj_step (y_move rfl) rfl rfl rfl (gj_step (y_extract rfl rfl) rfl rfl rfl (gj_step (y_extract rfl rfl) rfl rfl rfl (gj_step (y_assign rfl) rfl rfl rfl (gj_step (y_assign rfl) rfl rfl rfl (?_)))))
  refine gj_nil ?_
  refine ej_th (cj_seq (cj_region ?_))
  refine oj_step (y_build st190 rfl rfl) rfl rfl rfl ?_
  refine oj_step (y_build (cs := [.int .i64 1, .int .i64 0, .int .i64 0]) st190 rfl (by kernel_rfl)) rfl rfl rfl ?_
  refine oj_buildSlice (cs := [.int .i64 0, .int .i64 0, .int .i64 0, .int .i64 1, .int .i64 0, .int .i64 0]) [.int .i64 0, .int .i64 0, .int .i64 0, .int .i64 0, .int .i64 0, .int .i64 0] Tryz.underlying191 Tryz.sizeOf190 Tryz.zeroValue190 rfl rfl (by kernel_rfl) (by kernel_rfl) rfl (fun b16 => ?_)
  refine oj_buildSlice (cs := [.int .i64 1]) [.int .i64 0] Tryz.underlying23 Tryz.sizeOf3 Tryz.zeroValue3 rfl rfl (by kernel_rfl) (by kernel_rfl) rfl (fun b17 => ?_)
  refine oj_step (y_build (cs := [.int .i64 0, .int .i64 1, .int .i64 2, .slice (some ⟨b17, 0, none⟩) 1 1]) st193 rfl (by kernel_rfl)) rfl rfl rfl ?_
  refine oj_buildSlice (cs := [.int .i64 0, .int .i64 1, .int .i64 2, .slice (some ⟨b17, 0, none⟩) 1 1]) [.int .i64 0, .int .i64 0, .int .i64 0, .slice none 0 0] Tryz.underlying194 Tryz.sizeOf193 Tryz.zeroValue193 rfl rfl (by kernel_rfl) (by kernel_rfl) rfl (fun b19 => ?_)
  refine oj_buildSlice (cs := [.int .i64 1, .int .i64 0]) [.int .i64 0, .int .i64 0] Tryz.underlying23 Tryz.sizeOf3 Tryz.zeroValue3 rfl rfl (by kernel_rfl) (by kernel_rfl) rfl (fun b20 => ?_)
  refine oj_step (y_build (cs := [.slice (some ⟨b16, 0, none⟩) 2 2, .slice (some ⟨b19, 0, none⟩) 1 1, .slice (some ⟨b20, 0, none⟩) 2 2]) st196 rfl (by kernel_rfl)) rfl rfl rfl ?_
  refine oj_step (y_call Tryz.call94 rfl (fun w hp => by
    have h := Va.k_Enter (Va.StrV.mk (at4 b16) 2 ([⟨0, 0, 0⟩, ⟨1, 0, 0⟩] : List Vm.RoomV) (at4 b19) 1 [Va.GateV.mk 0 1 2 (at4 b17) 1 [1]] (at4 b20) 2 [1, 0]) 3 w ⟨(hp.rdLit (b := b16) (sz := 3) (enc := Va.encRo) ([⟨0, 0, 0⟩, ⟨1, 0, 0⟩] : List Vm.RoomV) (fun _ => rfl) rfl (by unfold maxLen; simp)), (hp.rdLit (b := b19) (sz := 4) (enc := Va.encGa) [Va.GateV.mk 0 1 2 (at4 b17) 1 [1]] (fun _ => rfl) rfl (by unfold maxLen; simp)), (hp.rdLit (b := b20) (sz := 1) (enc := enInt) [1, 0] (fun _ => rfl) rfl (by unfold maxLen; simp)), fun g hg => by
      rw [List.mem_singleton.1 hg]
      exact (hp.rdLit (b := b17) (sz := 1) (enc := enInt) [1] (fun _ => rfl) rfl (by unfold maxLen; simp))⟩
    rw [c_ent, c_entE] at h
    exact h)) rfl rfl rfl ?_
  refine oj_step (y_move rfl) rfl rfl rfl ?_
  refine oj_step (y_extract rfl rfl) rfl rfl rfl ?_
  refine oj_step (y_extract rfl rfl) rfl rfl rfl ?_
  refine oj_step (y_assign rfl) rfl rfl rfl ?_
  refine oj_step (y_assign rfl) rfl rfl rfl ?_
  refine oj_nil ?_
  refine ej_th (cj_seq (cj_region ?_))
  refine oj_step (y_build (cs := [.int .i64 2, .int .i64 1]) st91 rfl (by kernel_rfl)) rfl rfl rfl ?_
  refine oj_buildSlice (cs := [.int .i64 2, .int .i64 1]) [.int .i64 0, .int .i64 0] Tryz.underlying39 Tryz.sizeOf91 Tryz.zeroValue91 rfl rfl (by kernel_rfl) (by kernel_rfl) rfl (fun b27 => ?_)
  refine oj_buildSlice (cs := [.int .i64 100]) [.int .i64 0] Tryz.underlying23 Tryz.sizeOf3 Tryz.zeroValue3 rfl rfl (by kernel_rfl) (by kernel_rfl) rfl (fun b28 => ?_)
  refine oj_buildSlice (cs := [.int .i64 104]) [.int .i64 0] Tryz.underlying23 Tryz.sizeOf3 Tryz.zeroValue3 rfl rfl (by kernel_rfl) (by kernel_rfl) rfl (fun b29 => ?_)
  refine oj_step (y_call Tryz.call18 rfl (fun w hp => by
    have h := Pl.k_Agree [⟨2, 1⟩] (some ⟨b27, 0, none⟩) 1 [100] [104] (some ⟨b28, 0, none⟩) (some ⟨b29, 0, none⟩) 1 1 w (hp.rdLit (b := b27) (sz := 2) (enc := Pl.encMe) [⟨2, 1⟩] (fun _ => rfl) rfl (by unfold maxLen; simp)) (hp.rdLit (b := b28) (sz := 1) (enc := enInt) [100] (fun _ => rfl) rfl (by unfold maxLen; simp)) (hp.rdLit (b := b29) (sz := 1) (enc := enInt) [104] (fun _ => rfl) rfl (by unfold maxLen; simp))
    rw [c_agr, c_agrE] at h
    exact h)) rfl rfl rfl ?_
  refine oj_step (y_move rfl) rfl rfl rfl ?_
  refine oj_step (y_extract rfl rfl) rfl rfl rfl ?_
  refine oj_step (y_extract rfl rfl) rfl rfl rfl ?_
  refine oj_step (y_assign rfl) rfl rfl rfl ?_
  refine oj_step (y_assign rfl) rfl rfl rfl ?_
  refine oj_nil ?_
  refine ej_th (cj_seq ?_)
  refine cj_regionG ?_
  refine gj_step (y_build (cs := [.int .i64 40, .int .i64 300, .int .i64 5000]) st181 rfl (by kernel_rfl)) rfl rfl rfl (gj_step (y_build (cs := [.int .i64 400, .int .i64 900]) st105 rfl (by kernel_rfl)) rfl rfl rfl (?_))
  refine gj_step (y_call Tryz.call89 rfl (fun w hp => by
    have h := Le.k_Most 40 300 5000 400 900 w
    rw [c_most4, c_mostE4] at h
    exact h)) rfl rfl rfl ?_
  refine gj_step (y_move rfl) rfl rfl rfl (gj_step (y_extract rfl rfl) rfl rfl rfl (gj_step (y_extract rfl rfl) rfl rfl rfl (gj_step (y_assign rfl) rfl rfl rfl (gj_step (y_assign rfl) rfl rfl rfl (?_)))))
  refine gj_nil ?_
  refine ej_th (cj_seq (cj_region ?_))
  refine oj_step (y_move rfl) rfl rfl rfl ?_
  refine oj_step (y_eql rfl rfl) rfl rfl rfl ?_
  refine oj_step (y_move rfl) rfl rfl rfl ?_
  refine oj_yes rfl rfl rfl ?_
  refine oj_step (y_move rfl) rfl rfl rfl ?_
  refine oj_yes rfl rfl rfl ?_
  refine oj_step (y_eql rfl rfl) rfl rfl rfl ?_
  refine oj_step (y_pick rfl rfl rfl) rfl rfl rfl ?_
  refine oj_step (y_move rfl) rfl rfl rfl ?_
  refine oj_yes rfl rfl rfl ?_
  refine oj_step (y_move rfl) rfl rfl rfl ?_
  refine oj_yes rfl rfl rfl ?_
  refine oj_step (y_eql rfl rfl) rfl rfl rfl ?_
  refine oj_step (y_pick rfl rfl rfl) rfl rfl rfl ?_
  refine oj_step (y_move rfl) rfl rfl rfl ?_
  refine oj_yes rfl rfl rfl ?_
  refine oj_step (y_move rfl) rfl rfl rfl ?_
  refine oj_yes rfl rfl rfl ?_
  refine oj_step (y_eql rfl rfl) rfl rfl rfl ?_
  refine oj_step (y_pick rfl rfl rfl) rfl rfl rfl ?_
  refine oj_step (y_move rfl) rfl rfl rfl ?_
  refine oj_yes rfl rfl rfl ?_
  refine oj_step (y_move rfl) rfl rfl rfl ?_
  refine oj_yes rfl rfl rfl ?_
  refine oj_step (y_eqlS rfl rfl) rfl rfl rfl ?_
  refine oj_step (y_pick rfl rfl rfl) rfl rfl rfl ?_
  refine oj_step (y_move rfl) rfl rfl rfl ?_
  refine oj_yes rfl rfl rfl ?_
  refine oj_step (y_move rfl) rfl rfl rfl ?_
  refine oj_yes rfl rfl rfl ?_
  refine oj_step (y_eql rfl rfl) rfl rfl rfl ?_
  refine oj_step (y_pick rfl rfl rfl) rfl rfl rfl ?_
  refine oj_step (y_move rfl) rfl rfl rfl ?_
  refine oj_yes rfl rfl rfl ?_
  refine oj_step (y_move rfl) rfl rfl rfl ?_
  refine oj_step (y_pick rfl rfl rfl) rfl rfl rfl ?_
  refine oj_step (y_move rfl) rfl rfl rfl ?_
  refine oj_yes rfl rfl rfl ?_
  refine oj_step (y_move rfl) rfl rfl rfl ?_
  refine oj_yes rfl rfl rfl ?_
  refine oj_step (y_eql rfl rfl) rfl rfl rfl ?_
  refine oj_step (y_pick rfl rfl rfl) rfl rfl rfl ?_
  refine oj_step (y_assign rfl) rfl rfl rfl ?_
  refine oj_nil ?_
  refine ej_th (cj_ret ?_)
  exact ej_ret1 rfl Tryz.results64 rfl (fun w' hp => ⟨rfl, hp.below⟩)

theorem k_priced06  (w : World)  : Calls Tryz.prog 32 #[] w (fun e w' => e = .returned (.bool true) ∧ Grow w w') := by
  refine enter_pure (args := []) [] Tryz.func32 rfl (by rw [Tryz.ntmps32]; simp) (by simp) ?_
  refine cj_seq ?_
  refine cj_regionG (gj_step (y_assign rfl) rfl rfl rfl (gj_nil ?_))
  refine ej_th (cj_seq (cj_region ?_))
  refine oj_step (y_build (cs := [.int .i64 0, .int .i64 5]) st117 rfl (by kernel_rfl)) rfl rfl rfl ?_
  refine oj_buildSlice (cs := [.int .i64 0, .int .i64 5]) [.int .i64 0, .int .i64 0] Tryz.underlying60 Tryz.sizeOf117 Tryz.zeroValue117 rfl rfl (by kernel_rfl) (by kernel_rfl) rfl (fun b7 => ?_)
  refine oj_step (y_build (cs := [.int .i64 10, .int .i64 0, .slice (some ⟨b7, 0, none⟩) 1 1]) st62 rfl (by kernel_rfl)) rfl rfl rfl ?_
  refine oj_step (y_build (cs := [.int .i64 4, .int .i64 0, .int .i64 17]) st67 rfl (by kernel_rfl)) rfl rfl rfl ?_
  refine oj_step (y_build (cs := [.int .i64 3, .int .i64 0, .int .i64 12]) st67 rfl (by kernel_rfl)) rfl rfl rfl ?_
  refine oj_buildSlice (cs := [.int .i64 4, .int .i64 0, .int .i64 17, .int .i64 3, .int .i64 0, .int .i64 12]) [.int .i64 0, .int .i64 0, .int .i64 0, .int .i64 0, .int .i64 0, .int .i64 0] Tryz.underlying63 Tryz.sizeOf67 Tryz.zeroValue67 rfl rfl (by kernel_rfl) (by kernel_rfl) rfl (fun b11 => ?_)
  refine oj_step (y_call Tryz.call19 rfl (fun w hp => by
    have h := Au.k_Sell 10 0 [⟨0, 5⟩] (some ⟨b7, 0, none⟩) 1 [⟨4, 0, 17⟩, ⟨3, 0, 12⟩] (some ⟨b11, 0, none⟩) 2 w (hp.rdLit (b := b7) (sz := 2) (enc := Au.encRi) [⟨0, 5⟩] (fun _ => rfl) rfl (by unfold maxLen; simp)) (hp.rdLit (b := b11) (sz := 3) (enc := Au.encBi) [⟨4, 0, 17⟩, ⟨3, 0, 12⟩] (fun _ => rfl) rfl (by unfold maxLen; simp))
    rw [c_sell6, c_sellE6] at h
    exact h)) rfl rfl rfl ?_
  refine oj_step (y_move rfl) rfl rfl rfl ?_
  refine oj_step (y_extract rfl rfl) rfl rfl rfl ?_
  refine oj_step (y_extract rfl rfl) rfl rfl rfl ?_
  refine oj_alloc Tryz.zeroValue69 rfl rfl (fun b1 => ?_)
  refine oj_store rfl rfl rfl rfl Tryz.sizeOf69 rfl ?_
  refine oj_step (y_assign rfl) rfl rfl rfl ?_
  refine oj_nil ?_
  refine ej_th (cj_seq (cj_region ?_))
  refine oj_buildSlice (cs := [.int .i64 0]) [.int .i64 0] Tryz.underlying23 Tryz.sizeOf3 Tryz.zeroValue3 rfl rfl (by kernel_rfl) (by kernel_rfl) rfl (fun b16 => ?_)
  refine oj_buildSlice (cs := [.int .i64 4]) [.int .i64 0] Tryz.underlying23 Tryz.sizeOf3 Tryz.zeroValue3 rfl rfl (by kernel_rfl) (by kernel_rfl) rfl (fun b17 => ?_)
  refine oj_buildSlice (cs := [.int .i64 9]) [.int .i64 0] Tryz.underlying23 Tryz.sizeOf3 Tryz.zeroValue3 rfl rfl (by kernel_rfl) (by kernel_rfl) rfl (fun b18 => ?_)
  refine oj_buildSlice (cs := [.int .i64 6]) [.int .i64 0] Tryz.underlying23 Tryz.sizeOf3 Tryz.zeroValue3 rfl rfl (by kernel_rfl) (by kernel_rfl) rfl (fun b19 => ?_)
  refine oj_buildSlice (cs := [.slice (some ⟨b17, 0, none⟩) 1 1, .slice (some ⟨b18, 0, none⟩) 1 1, .slice (some ⟨b19, 0, none⟩) 1 1]) [.slice none 0 0, .slice none 0 0, .slice none 0 0] Tryz.underlying128 Tryz.sizeOf23 Tryz.zeroValue23 rfl rfl (by kernel_rfl) (by kernel_rfl) rfl (fun b20 => ?_)
  refine oj_step (y_build (cs := [.slice (some ⟨b16, 0, none⟩) 1 1, .slice (some ⟨b20, 0, none⟩) 3 3]) st130 rfl (by kernel_rfl)) rfl rfl rfl ?_
  refine oj_callS (fun A c => .tuple #[.slice A ([6] : List Int).length c, .int .i64 0]) 1 enInt ([6] : List Int) Tryz.call63 rfl (fun w hp => by
    have h := Au.k_Prices [0] (some ⟨b16, 0, none⟩) 1 [Au.ListV.mk (at4 b17) 1 [4], Au.ListV.mk (at4 b18) 1 [9], Au.ListV.mk (at4 b19) 1 [6]] (some ⟨b20, 0, none⟩) 3 w (hp.rdLit (b := b16) (sz := 1) (enc := enInt) [0] (fun _ => rfl) rfl (by unfold maxLen; simp)) (hp.rdLit (b := b20) (sz := 1) (enc := Au.encLs) [Au.ListV.mk (at4 b17) 1 [4], Au.ListV.mk (at4 b18) 1 [9], Au.ListV.mk (at4 b19) 1 [6]] (fun _ => rfl) rfl (by unfold maxLen; simp)) (fun r hr => by
      simp only [List.mem_cons, List.mem_nil_iff, or_false] at hr
      rcases hr with rfl | rfl | rfl
      · exact (hp.rdLit (b := b17) (sz := 1) (enc := enInt) [4] (fun _ => rfl) rfl (by unfold maxLen; simp))
      · exact (hp.rdLit (b := b18) (sz := 1) (enc := enInt) [9] (fun _ => rfl) rfl (by unfold maxLen; simp))
      · exact (hp.rdLit (b := b19) (sz := 1) (enc := enInt) [6] (fun _ => rfl) rfl (by unfold maxLen; simp)))
    rw [c_prc, c_prcE] at h
    exact h) rfl (fun A22 c22 fp22 hfp22 => ?_)
  refine oj_step (y_move rfl) rfl rfl rfl ?_
  refine oj_step (y_extract rfl rfl) rfl rfl rfl ?_
  refine oj_step (y_extract rfl rfl) rfl rfl rfl ?_
  refine oj_step (y_assign rfl) rfl rfl rfl ?_
  refine oj_step (y_assign rfl) rfl rfl rfl ?_
  refine oj_nil ?_
  refine ej_th (cj_seq (cj_region ?_))
  refine oj_step (y_move rfl) rfl rfl rfl ?_
  refine oj_step (y_eql rfl rfl) rfl rfl rfl ?_
  refine oj_step (y_move rfl) rfl rfl rfl ?_
  refine oj_yes rfl rfl rfl ?_
  refine oj_step (y_move rfl) rfl rfl rfl ?_
  refine oj_yes rfl rfl rfl ?_
  refine oj_step (y_eql rfl rfl) rfl rfl rfl ?_
  refine oj_step (y_pick rfl rfl rfl) rfl rfl rfl ?_
  refine oj_step (y_move rfl) rfl rfl rfl ?_
  refine oj_yes rfl rfl rfl ?_
  refine oj_step (y_loadN Tryz.isAgg69 Tryz.sizeOf69 rfl) rfl rfl rfl ?_
  refine oj_yes rfl rfl rfl ?_
  refine oj_step (y_build (cs := [.int .i64 4, .int .i64 15]) st69 rfl (by kernel_rfl)) rfl rfl rfl ?_
  refine oj_yes rfl rfl rfl ?_
  refine oj_step (y_bin rfl rfl (fun x y w => eq69 _ _ _ _ x y w)) rfl rfl rfl ?_
  refine oj_step (y_pick rfl rfl rfl) rfl rfl rfl ?_
  refine oj_step (y_move rfl) rfl rfl rfl ?_
  refine oj_yes rfl rfl rfl ?_
  refine oj_step (y_move rfl) rfl rfl rfl ?_
  refine oj_yes rfl rfl rfl ?_
  refine oj_buildSlice (cs := [.int .i64 6]) [.int .i64 0] Tryz.underlying23 Tryz.sizeOf3 Tryz.zeroValue3 rfl rfl (by kernel_rfl) (by kernel_rfl) rfl (fun b38 => ?_)
  refine oj_yes rfl rfl rfl ?_
  refine oj_step (y_call Tryz.call31 rfl (fun w hp => k_Same [6] [6] A22 (some ⟨b38, 0, none⟩) c22 1 w hp.rd (hp.rdLit (b := b38) (sz := 1) (enc := enInt) [6] (fun _ => rfl) rfl (by unfold maxLen; simp)))) rfl rfl rfl ?_
  refine oj_step (y_pick rfl rfl rfl) rfl rfl rfl ?_
  refine oj_step (y_move rfl) rfl rfl rfl ?_
  refine oj_yes rfl rfl rfl ?_
  refine oj_step (y_call Tryz.call64 rfl (fun w hp => k_returned04 w)) rfl rfl rfl ?_
  refine oj_step (y_pick rfl rfl rfl) rfl rfl rfl ?_
  refine oj_step (y_assign rfl) rfl rfl rfl ?_
  refine oj_nil ?_
  refine ej_th (cj_ret ?_)
  exact ej_ret1 rfl Tryz.results32 rfl (fun w' hp => ⟨rfl, hp.below⟩)

theorem k_paid08  (w : World)  : Calls Tryz.prog 7 #[] w (fun e w' => e = .returned (.bool true) ∧ Grow w w') := by
  refine enter_pure (args := []) [] Tryz.func7 rfl (by rw [Tryz.ntmps7]; simp) (by simp) ?_
  refine cj_seq ?_
  refine cj_regionG (gj_step (y_assign rfl) rfl rfl rfl (gj_nil ?_))
  refine ej_th (cj_seq (cj_region ?_))
  refine oj_buildSlice (cs := [.int .i64 20, .int .i64 10, .int .i64 7, .int .i64 1]) [.int .i64 0, .int .i64 0, .int .i64 0, .int .i64 0] Tryz.underlying23 Tryz.sizeOf3 Tryz.zeroValue3 rfl rfl (by kernel_rfl) (by kernel_rfl) rfl (fun b6 => ?_)
  refine oj_buildSlice (cs := [.int .i64 1, .int .i64 2, .int .i64 3, .int .i64 1]) [.int .i64 0, .int .i64 0, .int .i64 0, .int .i64 0] Tryz.underlying23 Tryz.sizeOf3 Tryz.zeroValue3 rfl rfl (by kernel_rfl) (by kernel_rfl) rfl (fun b7 => ?_)
  refine oj_step (y_build (cs := [.slice (some ⟨b6, 0, none⟩) 4 4, .slice (some ⟨b7, 0, none⟩) 4 4]) st25 rfl (by kernel_rfl)) rfl rfl rfl ?_
  refine oj_callS (fun A c => .tuple #[.slice A ([0, 1, 2, 0] : List Int).length c, .int .i64 0]) 1 enInt ([0, 1, 2, 0] : List Int) Tryz.call10 rfl (fun w hp => by
    have h := Ti.k_Pay [20, 10, 7, 1] [1, 2, 3, 1] (some ⟨b6, 0, none⟩) (some ⟨b7, 0, none⟩) 4 4 24 w (hp.rdLit (b := b6) (sz := 1) (enc := enInt) [20, 10, 7, 1] (fun _ => rfl) rfl (by unfold maxLen; simp)) (hp.rdLit (b := b7) (sz := 1) (enc := enInt) [1, 2, 3, 1] (fun _ => rfl) rfl (by unfold maxLen; simp))
    rw [c_pay, c_payE] at h
    exact h) rfl (fun A9 c9 fp9 hfp9 => ?_)
  refine oj_step (y_move rfl) rfl rfl rfl ?_
  refine oj_step (y_extract rfl rfl) rfl rfl rfl ?_
  refine oj_step (y_extract rfl rfl) rfl rfl rfl ?_
  refine oj_step (y_assign rfl) rfl rfl rfl ?_
  refine oj_step (y_assign rfl) rfl rfl rfl ?_
  refine oj_nil ?_
  refine ej_th (cj_seq (cj_region ?_))
  refine oj_buildSlice (cs := [.int .i64 6, .int .i64 3, .int .i64 1]) [.int .i64 0, .int .i64 0, .int .i64 0] Tryz.underlying23 Tryz.sizeOf3 Tryz.zeroValue3 rfl rfl (by kernel_rfl) (by kernel_rfl) rfl (fun b13 => ?_)
  refine oj_callS (fun A c => .tuple #[.slice A ([4, 1, 0] : List Int).length c, .int .i64 0]) 1 enInt ([4, 1, 0] : List Int) Tryz.call30 rfl (fun w hp => by
    have h := Pu.k_Share [6, 3, 1] (some ⟨b13, 0, none⟩) 3 5 w (hp.rdLit (b := b13) (sz := 1) (enc := enInt) [6, 3, 1] (fun _ => rfl) rfl (by unfold maxLen; simp))
    rw [c_shr8, c_shrE8] at h
    exact h) rfl (fun A14 c14 fp14 hfp14 => ?_)
  refine oj_step (y_move rfl) rfl rfl rfl ?_
  refine oj_step (y_extract rfl rfl) rfl rfl rfl ?_
  refine oj_step (y_extract rfl rfl) rfl rfl rfl ?_
  refine oj_step (y_assign rfl) rfl rfl rfl ?_
  refine oj_step (y_assign rfl) rfl rfl rfl ?_
  refine oj_nil ?_
  refine ej_th (cj_seq (cj_region ?_))
  refine oj_step (y_move rfl) rfl rfl rfl ?_
  refine oj_step (y_eql rfl rfl) rfl rfl rfl ?_
  refine oj_step (y_move rfl) rfl rfl rfl ?_
  refine oj_yes rfl rfl rfl ?_
  refine oj_step (y_move rfl) rfl rfl rfl ?_
  refine oj_yes rfl rfl rfl ?_
  refine oj_step (y_eql rfl rfl) rfl rfl rfl ?_
  refine oj_step (y_pick rfl rfl rfl) rfl rfl rfl ?_
  refine oj_step (y_move rfl) rfl rfl rfl ?_
  refine oj_yes rfl rfl rfl ?_
  refine oj_step (y_move rfl) rfl rfl rfl ?_
  refine oj_yes rfl rfl rfl ?_
  refine oj_buildSlice (cs := [.int .i64 0, .int .i64 1, .int .i64 2, .int .i64 0]) [.int .i64 0, .int .i64 0, .int .i64 0, .int .i64 0] Tryz.underlying23 Tryz.sizeOf3 Tryz.zeroValue3 rfl rfl (by kernel_rfl) (by kernel_rfl) rfl (fun b25 => ?_)
  refine oj_yes rfl rfl rfl ?_
  refine oj_step (y_call Tryz.call31 rfl (fun w hp => k_Same [0, 1, 2, 0] [0, 1, 2, 0] A9 (some ⟨b25, 0, none⟩) c9 4 w hp.rd (hp.rdLit (b := b25) (sz := 1) (enc := enInt) [0, 1, 2, 0] (fun _ => rfl) rfl (by unfold maxLen; simp)))) rfl rfl rfl ?_
  refine oj_step (y_pick rfl rfl rfl) rfl rfl rfl ?_
  refine oj_step (y_move rfl) rfl rfl rfl ?_
  refine oj_yes rfl rfl rfl ?_
  refine oj_step (y_move rfl) rfl rfl rfl ?_
  refine oj_yes rfl rfl rfl ?_
  refine oj_buildSlice (cs := [.int .i64 4, .int .i64 1, .int .i64 0]) [.int .i64 0, .int .i64 0, .int .i64 0] Tryz.underlying23 Tryz.sizeOf3 Tryz.zeroValue3 rfl rfl (by kernel_rfl) (by kernel_rfl) rfl (fun b30 => ?_)
  refine oj_yes rfl rfl rfl ?_
  refine oj_step (y_call Tryz.call31 rfl (fun w hp => k_Same [4, 1, 0] [4, 1, 0] A14 (some ⟨b30, 0, none⟩) c14 3 w hp.rd (hp.rdLit (b := b30) (sz := 1) (enc := enInt) [4, 1, 0] (fun _ => rfl) rfl (by unfold maxLen; simp)))) rfl rfl rfl ?_
  refine oj_step (y_pick rfl rfl rfl) rfl rfl rfl ?_
  refine oj_step (y_move rfl) rfl rfl rfl ?_
  refine oj_yes rfl rfl rfl ?_
  refine oj_step (y_call Tryz.call32 rfl (fun w hp => k_priced06 w)) rfl rfl rfl ?_
  refine oj_step (y_pick rfl rfl rfl) rfl rfl rfl ?_
  refine oj_step (y_assign rfl) rfl rfl rfl ?_
  refine oj_nil ?_
  refine ej_th (cj_ret ?_)
  exact ej_ret1 rfl Tryz.results7 rfl (fun w' hp => ⟨rfl, hp.below⟩)

end Go.Proofs.YtppfniekcgnmjaaGreat.To
namespace Go.Proofs.YtppfniekcgnmjaaGreat.Pl
open Go.Sx Go.RowKit

/-- the numbers from k on, n of them, whose bit is there -/
def selF (bits : Nat) : Nat → Nat → List Int
  | 0, _ => []
  | n + 1, k => if bits / 2 ^ k % 2 = 1 then (k : Int) :: selF bits n (k + 1) else selF bits n (k + 1)
theorem selF_len (bits : Nat) : ∀ (n k : Nat), (selF bits n k).length ≤ n
  | 0, _ => by simp [selF]
  | n + 1, k => by
    have := selF_len bits n (k + 1)
    rw [selF]; split
    · simp only [List.length_cons]; omega
    · omega
theorem selF_rng (bits : Nat) : ∀ (n k : Nat), ∀ i ∈ selF bits n k, (k : Int) ≤ i ∧ i < (k : Int) + n
  | 0, _ => by simp [selF]
  | n + 1, k => by
    intro i hi
    have := selF_rng bits n (k + 1) i
    rw [selF] at hi
    split at hi
    · rcases List.mem_cons.1 hi with h | h
      · omega
      · have := this h; omega
    · have := this hi; omega
def labN (ms : List Meas) (set : List Int) : Int := (set.map (fun i => (ms.getD i.toNat default).lab)).sum
theorem labN_bd (ms : List Meas) (hm : ∀ m ∈ ms, 1 ≤ m.lab ∧ m.lab ≤ 1000) (set : List Int) (hs : ∀ i ∈ set, 0 ≤ i ∧ i < ms.length) : 0 ≤ labN ms set ∧ labN ms set ≤ 1000 * set.length := by
  induction set with
  | nil => simp [labN]
  | cons i l ih =>
    have h1 := ih (fun j hj => hs j (List.mem_cons_of_mem _ hj))
    have h2 := hs i (List.mem_cons_self ..)
    have h3 : ms.getD i.toNat default ∈ ms := by
      rw [List.getD_eq_getElem?_getD, List.getElem?_eq_getElem (show i.toNat < ms.length by omega)]
      exact List.getElem_mem _
    have h4 := hm _ h3
    unfold labN at h1 ⊢
    rw [List.map_cons, List.sum_cons, List.length_cons]
    omega
/-- the order of lists of numbers -/
def cmpL : List Int → List Int → Int
  | [], [] => 0
  | [], _ :: _ => -1
  | _ :: _, [] => 1
  | a :: x, b :: y => if a = b then cmpL x y else if a < b then -1 else 1
abbrev Best := List Int × Int
def stepL (ms : List Meas) (tk : List Int) (fs : List FakeV) (st : Best) (bits : Nat) : Best :=
  if shwB ms tk fs (selF bits ms.length 0) then (if st.2 < 0 ∨ labN ms (selF bits ms.length 0) < st.2 ∨ (labN ms (selF bits ms.length 0) = st.2 ∧ cmpL (selF bits ms.length 0) st.1 < 0) then (selF bits ms.length 0, labN ms (selF bits ms.length 0)) else st) else st
def bestN (ms : List Meas) (tk : List Int) (fs : List FakeV) (n : Nat) : Best := (List.range n).foldl (stepL ms tk fs) ([], -1)
theorem bestN_succ (ms : List Meas) (tk : List Int) (fs : List FakeV) (n : Nat) : bestN ms tk fs (n + 1) = stepL ms tk fs (bestN ms tk fs n) n := by
  unfold bestN; rw [List.range_succ, List.foldl_append]; rfl
def best (ms : List Meas) (tk : List Int) (fs : List FakeV) : Best := bestN ms tk fs (2 ^ ms.length)
theorem bestN_bd (ms : List Meas) (tk : List Int) (fs : List FakeV) (hm : ∀ m ∈ ms, 1 ≤ m.lab ∧ m.lab ≤ 1000) (n : Nat) : -1 ≤ (bestN ms tk fs n).2 ∧ (bestN ms tk fs n).2 ≤ 1000 * ms.length ∧ (bestN ms tk fs n).1.length ≤ ms.length := by
  induction n with
  | zero => exact ⟨Int.le_refl _, (by show (-1 : Int) ≤ _; omega), Nat.zero_le _⟩
  | succ n ih =>
    rw [bestN_succ]
    have h1 := selF_len n ms.length 0
    have h2 := labN_bd ms hm (selF n ms.length 0) (fun i hi => by have := selF_rng n ms.length 0 i hi; omega)
    unfold stepL
    split
    · split
      · exact ⟨by simp only; omega, by simp only; omega, h1⟩
      · exact ih
    · exact ih
def LstE (ms : List Meas) (tk : List Int) (fs : List FakeV) : Int := if skillE ms tk fs = 0 then (if (best ms tk fs).2 < 0 then 4 else 0) else skillE ms tk fs
def LstS (ms : List Meas) (tk : List Int) (fs : List FakeV) : List Int := if LstE ms tk fs = 0 then (best ms tk fs).1 else []
def LstN (ms : List Meas) (tk : List Int) (fs : List FakeV) : Int := if LstE ms tk fs = 0 then (best ms tk fs).2 else 0

/-! ### The bound -/
theorem map_sum_drop (f : Int → Int) (l : List Int) (k : Nat) (x : Int) (h : l[k]? = some x) : ((l.drop k).map f).sum = f x + ((l.drop (k + 1)).map f).sum := by
  obtain ⟨h1, h2⟩ := List.getElem?_eq_some_iff.1 h
  rw [List.drop_eq_getElem_cons h1, h2, List.map_cons, List.sum_cons]
theorem selF_step (bits N k : Nat) (h : k < N) : selF bits (N - k) k = if bits / 2 ^ k % 2 = 1 then (k : Int) :: selF bits (N - (k + 1)) (k + 1) else selF bits (N - (k + 1)) (k + 1) := by
  rw [show N - k = (N - (k + 1)) + 1 by omega, selF]
def cmpI (a b : Int) : Int := if a < b then -1 else if b < a then 1 else 0
theorem cmpL_drop (x y : List Int) (k : Nat) (a b : Int) (ha : x[k]? = some a) (hb : y[k]? = some b) : cmpL (x.drop k) (y.drop k) = if cmpI a b = 0 then cmpL (x.drop (k + 1)) (y.drop (k + 1)) else cmpI a b := by
  obtain ⟨h1, h2⟩ := List.getElem?_eq_some_iff.1 ha
  obtain ⟨h3, h4⟩ := List.getElem?_eq_some_iff.1 hb
  rw [List.drop_eq_getElem_cons h1, h2, List.drop_eq_getElem_cons h3, h4, cmpL]
  by_cases h : a = b
  · have e : cmpI a b = 0 := by rw [cmpI, if_neg (by omega), if_neg (by omega)]
    rw [if_pos h, if_pos e]
  · rw [if_neg h]
    by_cases h5 : a < b
    · have e : cmpI a b = -1 := by rw [cmpI, if_pos h5]
      rw [if_pos h5, e]; rfl
    · have e : cmpI a b = 1 := by rw [cmpI, if_neg h5, if_pos (by omega)]
      rw [if_neg h5, e]; rfl
theorem cmpL_end (x y : List Int) (k : Nat) (a : Int) (ha : x[k]? = some a) (hy : y.length ≤ k) : cmpL (x.drop k) (y.drop k) = 1 := by
  obtain ⟨h1, h2⟩ := List.getElem?_eq_some_iff.1 ha
  rw [List.drop_eq_getElem_cons h1, h2, List.drop_of_length_le hy, cmpL]
theorem cmpL_end2 (x y : List Int) (k : Nat) (hx : x.length ≤ k) : cmpL (x.drop k) (y.drop k) = if k < y.length then -1 else 0 := by
  rw [List.drop_of_length_le hx]
  split
  · rename_i h
    rw [List.drop_eq_getElem_cons h, cmpL]
  · rename_i h
    rw [List.drop_of_length_le (by omega), cmpL]
theorem sum_nn (f : Int → Int) (q : List Int) (h : ∀ x ∈ q, 0 ≤ f x) : 0 ≤ (q.map f).sum := by
  induction q with
  | nil => simp
  | cons x q ih =>
    have h2 := ih (fun y hy => h y (List.mem_cons_of_mem _ hy))
    have h3 := h x (List.mem_cons_self ..)
    rw [List.map_cons, List.sum_cons]; omega
abbrev labAt (ms : List Meas) (i : Int) : Int := (ms.getD i.toNat default).lab
theorem labAt_bd {ms : List Meas} (hm : ∀ m ∈ ms, (0 ≤ m.tol ∧ m.tol ≤ 1000) ∧ (1 ≤ m.lab ∧ m.lab ≤ 1000)) {i : Int} (hi : 0 ≤ i ∧ i < ms.length) : 1 ≤ labAt ms i ∧ labAt ms i ≤ 1000 := by
  have h3 : ms.getD i.toNat default ∈ ms := by
    rw [List.getD_eq_getElem?_getD, List.getElem?_eq_getElem (show i.toNat < ms.length by omega)]
    exact List.getElem_mem _
  exact (hm _ h3).2
theorem lst_no1 {ms : List Meas} {tk : List Int} {fs : List FakeV} (h : ¬ skillE ms tk fs = 0) : LstE ms tk fs = skillE ms tk fs ∧ LstS ms tk fs = [] ∧ LstN ms tk fs = 0 := by
  have e : LstE ms tk fs = skillE ms tk fs := by rw [LstE, if_neg h]
  exact ⟨e, by rw [LstS, e, if_neg h], by rw [LstN, e, if_neg h]⟩
theorem lst_no2 {ms : List Meas} {tk : List Int} {fs : List FakeV} (h : skillE ms tk fs = 0) (h2 : (best ms tk fs).2 < 0) : LstE ms tk fs = 4 ∧ LstS ms tk fs = [] ∧ LstN ms tk fs = 0 := by
  have e : LstE ms tk fs = 4 := by rw [LstE, if_pos h, if_pos h2]
  exact ⟨e, by rw [LstS, e]; rfl, by rw [LstN, e]; rfl⟩
theorem lst_yes {ms : List Meas} {tk : List Int} {fs : List FakeV} (h : skillE ms tk fs = 0) (h2 : ¬ (best ms tk fs).2 < 0) : LstE ms tk fs = 0 ∧ LstS ms tk fs = (best ms tk fs).1 ∧ LstN ms tk fs = (best ms tk fs).2 := by
  have e : LstE ms tk fs = 0 := by rw [LstE, if_pos h, if_neg h2]
  exact ⟨e, by rw [LstS, if_pos e], by rw [LstN, if_pos e]⟩
end Go.Proofs.YtppfniekcgnmjaaGreat.Pl
namespace Go.Proofs.YtppfniekcgnmjaaGreat.Pl
open Go.Sx Go.RowKit

theorem cmpL_eq : ∀ a b : List Int, cmpL a b = 0 ↔ a = b
  | [], [] => by simp [cmpL]
  | [], _ :: _ => by simp [cmpL]
  | _ :: _, [] => by simp [cmpL]
  | a :: x, b :: y => by
    rw [cmpL]
    by_cases h : a = b
    · rw [if_pos h, cmpL_eq x y, h]; simp
    · rw [if_neg h]
      constructor
      · intro h2; split at h2 <;> omega
      · intro h2; injection h2 with h3 _; exact absurd h3 h
theorem cmpL_rng : ∀ a b : List Int, cmpL a b = -1 ∨ cmpL a b = 0 ∨ cmpL a b = 1
  | [], [] => by simp [cmpL]
  | [], _ :: _ => by simp [cmpL]
  | _ :: _, [] => by simp [cmpL]
  | a :: x, b :: y => by
    rw [cmpL]
    split
    · exact cmpL_rng x y
    · split <;> simp
theorem cmpL_neg : ∀ a b : List Int, cmpL b a = - cmpL a b
  | [], [] => by simp [cmpL]
  | [], _ :: _ => by simp [cmpL]
  | _ :: _, [] => by simp [cmpL]
  | a :: x, b :: y => by
    rw [cmpL, cmpL]
    by_cases h : a = b
    · rw [if_pos h.symm, if_pos h]; exact cmpL_neg x y
    · rw [if_neg (fun e => h e.symm), if_neg h]
      by_cases h2 : a < b
      · rw [if_pos h2, if_neg (by omega)]; rfl
      · rw [if_neg h2, if_pos (by omega)]
theorem cmpL_trans : ∀ a b c : List Int, cmpL a b < 0 → cmpL b c < 0 → cmpL a c < 0
  | [], [], _, h, _ => by simp [cmpL] at h
  | [], _ :: _, [], _, h => by simp [cmpL] at h
  | [], _ :: _, _ :: _, _, _ => by simp [cmpL]
  | _ :: _, [], _, h, _ => by simp [cmpL] at h
  | _ :: _, _ :: _, [], _, h => by simp [cmpL] at h
  | a :: x, b :: y, c :: z, h1, h2 => by
    rw [cmpL] at h1 h2 ⊢
    by_cases e1 : a = b
    · by_cases e2 : b = c
      · rw [if_pos e1] at h1; rw [if_pos e2] at h2
        rw [if_pos (e1.trans e2)]; exact cmpL_trans x y z h1 h2
      · rw [if_neg e2] at h2
        rw [if_neg (by omega)]
        split at h2
        · rw [if_pos (by omega)]; decide
        · omega
    · rw [if_neg e1] at h1
      split at h1
      · by_cases e2 : b = c
        · rw [if_neg (by omega), if_pos (by omega)]; decide
        · rw [if_neg e2] at h2
          split at h2
          · rw [if_neg (by omega), if_pos (by omega)]; decide
          · omega
      · omega

/-- less labour, or the same and before it -/
def ltB (ms : List Meas) (x y : List Int) : Prop := labN ms x < labN ms y ∨ (labN ms x = labN ms y ∧ cmpL x y < 0)
instance (ms : List Meas) (x y : List Int) : Decidable (ltB ms x y) := by unfold ltB; infer_instance
theorem ltB_trans {ms : List Meas} {x y z : List Int} (h : ltB ms x y) (k : ltB ms y z) : ltB ms x z := by
  unfold ltB at *
  rcases h with h | ⟨h, h2⟩
  · rcases k with k | ⟨k, _⟩
    · exact .inl (by omega)
    · exact .inl (by omega)
  · rcases k with k | ⟨k, k2⟩
    · exact .inl (by omega)
    · exact .inr ⟨by omega, cmpL_trans _ _ _ h2 k2⟩
theorem ltB_tri (ms : List Meas) (x y : List Int) : ltB ms x y ∨ x = y ∨ ltB ms y x := by
  unfold ltB
  by_cases h : labN ms x < labN ms y
  · exact .inl (.inl h)
  · by_cases h2 : labN ms y < labN ms x
    · exact .inr (.inr (.inl h2))
    · rcases cmpL_rng x y with h3 | h3 | h3
      · exact .inl (.inr ⟨by omega, by omega⟩)
      · exact .inr (.inl ((cmpL_eq x y).1 h3))
      · exact .inr (.inr (.inr ⟨by omega, by rw [cmpL_neg]; omega⟩))
theorem ltB_irr (ms : List Meas) (x : List Int) : ¬ ltB ms x x := by
  unfold ltB
  have := (cmpL_eq x x).2 rfl
  omega
theorem ltB_ntr {ms : List Meas} {x y z : List Int} (h : ¬ ltB ms x y) (k : ¬ ltB ms y z) : ¬ ltB ms x z := by
  rcases ltB_tri ms y x with h1 | h1 | h1
  · rcases ltB_tri ms z y with h2 | h2 | h2
    · intro h3; exact ltB_irr ms x (ltB_trans h3 (ltB_trans h2 h1))
    · rw [h2]; exact h
    · exact absurd h2 k
  · rw [← h1]; exact k
  · exact absurd h1 h

/-- the reference's round -/
def rstepL (ms : List Meas) (tk : List Int) (fs : List FakeV) (b : List Int) (bits : Nat) : List Int :=
  if shwB ms tk fs (selF bits ms.length 0) && decide (ltB ms (selF bits ms.length 0) b) then selF bits ms.length 0 else b
abbrev fullS (ms : List Meas) : List Int := selF (2 ^ ms.length - 1) ms.length 0
def rbestN (ms : List Meas) (tk : List Int) (fs : List FakeV) (n : Nat) : List Int := (List.range n).foldl (rstepL ms tk fs) (fullS ms)
theorem rbestN_succ (ms : List Meas) (tk : List Int) (fs : List FakeV) (n : Nat) : rbestN ms tk fs (n + 1) = rstepL ms tk fs (rbestN ms tk fs n) n := by
  unfold rbestN; rw [List.range_succ, List.foldl_append]; rfl
theorem fndF_rng : ∀ (ms : List Meas) (rs : List Int) (ss : List Span) (k : Nat), ∀ i ∈ fndF ms rs ss k, (k : Int) ≤ i ∧ i < (k : Int) + ms.length
  | [], _, _, _ => by simp [fndF]
  | _ :: _, [], _, _ => by simp [fndF]
  | _ :: _, _ :: _, [], _ => by simp [fndF]
  | m :: ms, r :: rs, s :: ss, k => by
    intro i hi
    have := fndF_rng ms rs ss (k + 1) i
    rw [fndF] at hi
    simp only [List.length_cons]
    split at hi
    · rcases List.mem_cons.1 hi with h | h
      · omega
      · have := this h; omega
    · have := this hi; omega
/-- what the program's state says -/
structure StP (ms : List Meas) (tk : List Int) (fs : List FakeV) (n : Nat) (st : Best) : Prop where
  lab : 0 ≤ st.2 → st.2 = labN ms st.1
  rb : rbestN ms tk fs n = if 0 ≤ st.2 ∧ ltB ms st.1 (fullS ms) then st.1 else fullS ms
  sh : 0 ≤ st.2 → shwB ms tk fs st.1 = true
  mi : ∀ b, b < n → shwB ms tk fs (selF b ms.length 0) = true → 0 ≤ st.2 ∧ ¬ ltB ms (selF b ms.length 0) st.1
theorem stP (ms : List Meas) (tk : List Int) (fs : List FakeV) (hm : ∀ m ∈ ms, 1 ≤ m.lab ∧ m.lab ≤ 1000) : ∀ n, StP ms tk fs n (bestN ms tk fs n)
  | 0 => by
    have h0 : ¬ 0 ≤ (bestN ms tk fs 0).2 := fun h => absurd (show (0 : Int) ≤ -1 from h) (by decide)
    exact ⟨fun h => absurd h h0, by rw [if_neg (fun h => h0 h.1)]; rfl, fun h => absurd h h0, fun b h => absurd h (Nat.not_lt_zero _)⟩
  | n + 1 => by
    have ih := stP ms tk fs hm n
    have hx : 0 ≤ labN ms (selF n ms.length 0) := (labN_bd ms hm _ (fun i hi => by have := selF_rng n ms.length 0 i hi; omega)).1
    rw [bestN_succ]
    obtain ⟨x, hxe⟩ : ∃ x, x = selF n ms.length 0 := ⟨_, rfl⟩
    obtain ⟨st, hst⟩ : ∃ st, st = bestN ms tk fs n := ⟨_, rfl⟩
    rw [← hst] at ih ⊢
    have hrb := rbestN_succ ms tk fs n
    rw [ih.rb] at hrb
    unfold stepL
    unfold rstepL at hrb
    rw [← hxe] at hx hrb ⊢
    by_cases hs : shwB ms tk fs x = true
    · rw [if_pos hs]
      rw [hs, Bool.true_and] at hrb
      by_cases hc : st.2 < 0 ∨ labN ms x < st.2 ∨ (labN ms x = st.2 ∧ cmpL x st.1 < 0)
      · rw [if_pos hc]
        have hnew : ∀ b, b < n → shwB ms tk fs (selF b ms.length 0) = true → ¬ ltB ms (selF b ms.length 0) x := by
          intro b hb hsb
          have h1 := ih.mi b hb hsb
          have h2 : ltB ms x st.1 := by
            have h3 := ih.lab h1.1
            unfold ltB
            rcases hc with hc | hc | hc
            · omega
            · exact .inl (by omega)
            · exact .inr ⟨by omega, hc.2⟩
          intro h4; exact h1.2 (ltB_trans h4 h2)
        refine ⟨fun _ => rfl, ?_, fun _ => hs, ?_⟩
        · simp only [hx, true_and]
          rw [hrb]
          by_cases hn : 0 ≤ st.2
          · have h2 : ltB ms x st.1 := by
              have h3 := ih.lab hn
              unfold ltB
              rcases hc with hc | hc | hc
              · omega
              · exact .inl (by omega)
              · exact .inr ⟨by omega, hc.2⟩
            by_cases h4 : ltB ms st.1 (fullS ms)
            · rw [if_pos (show 0 ≤ st.2 ∧ ltB ms st.1 (fullS ms) from ⟨hn, h4⟩), if_pos (decide_eq_true h2), if_pos (ltB_trans h2 h4)]
            · rw [if_neg (show ¬ (0 ≤ st.2 ∧ ltB ms st.1 (fullS ms)) from fun h => h4 h.2)]
              by_cases h5 : ltB ms x (fullS ms)
              · rw [if_pos (decide_eq_true h5), if_pos h5]
              · rw [if_neg (show ¬ decide (ltB ms x (fullS ms)) = true from fun h => h5 (of_decide_eq_true h)), if_neg h5]
          · rw [if_neg (show ¬ (0 ≤ st.2 ∧ ltB ms st.1 (fullS ms)) from fun h => hn h.1)]
            by_cases h5 : ltB ms x (fullS ms)
            · rw [if_pos (decide_eq_true h5), if_pos h5]
            · rw [if_neg (show ¬ decide (ltB ms x (fullS ms)) = true from fun h => h5 (of_decide_eq_true h)), if_neg h5]
        · intro b hb hsb
          refine ⟨hx, ?_⟩
          by_cases hbn : b = n
          · rw [hbn, ← hxe]; exact ltB_irr ms x
          · exact hnew b (by omega) hsb
      · rw [if_neg hc]
        have hn : 0 ≤ st.2 := by omega
        have h2 : ¬ ltB ms x st.1 := by
          have h3 := ih.lab hn
          unfold ltB
          intro h
          rcases h with h | h
          · exact hc (.inr (.inl (by omega)))
          · exact hc (.inr (.inr ⟨by omega, h.2⟩))
        refine ⟨ih.lab, ?_, ih.sh, ?_⟩
        · rw [hrb]
          by_cases h4 : ltB ms st.1 (fullS ms)
          · rw [if_pos (show 0 ≤ st.2 ∧ ltB ms st.1 (fullS ms) from ⟨hn, h4⟩), if_neg (show ¬ decide (ltB ms x st.1) = true from fun h => h2 (of_decide_eq_true h))]
          · rw [if_neg (show ¬ (0 ≤ st.2 ∧ ltB ms st.1 (fullS ms)) from fun h => h4 h.2), if_neg (show ¬ decide (ltB ms x (fullS ms)) = true from fun h => ltB_ntr h2 h4 (of_decide_eq_true h))]
        · intro b hb hsb
          by_cases hbn : b = n
          · exact ⟨hn, by rw [hbn, ← hxe]; exact h2⟩
          · exact ih.mi b (by omega) hsb
    · rw [if_neg hs]
      rw [if_neg (by simp [hs])] at hrb
      refine ⟨ih.lab, hrb, ih.sh, ?_⟩
      intro b hb hsb
      by_cases hbn : b = n
      · rw [hbn, ← hxe] at hsb; exact absurd hsb hs
      · exact ih.mi b (by omega) hsb
end Go.Proofs.YtppfniekcgnmjaaGreat.Pl
namespace Go.Proofs.YtppfniekcgnmjaaGreat.Pl
open Go.Sx Go.RowKit

/-! ### The reference's words -/
/-- do the set's measures find a fake? -/
def fndA (ms : List Meas) (tk : List Int) (f : FakeV) (i : Int) : Bool := fnd (ms.getD i.toNat default) (tk.getD i.toNat default) (f.has.getD i.toNat default)
def rshw (ms : List Meas) (tk : List Int) (f : FakeV) (set : List Int) : Bool := set.any (fndA ms tk f)
theorem fndF_mem : ∀ (ms : List Meas) (rs : List Int) (ss : List Span) (k : Nat) (i : Nat), rs.length = ms.length → ss.length = ms.length → i < ms.length → (hasI (fndF ms rs ss k) ((k + i : Nat) : Int) = fnd (ms.getD i default) (rs.getD i default) (ss.getD i default))
  | [], _, _, _, i, _, _, hi => by simp at hi
  | m :: ms, [], _, _, _, h, _, _ => by simp at h
  | m :: ms, r :: rs, [], _, _, _, h, _ => by simp at h
  | m :: ms, r :: rs, s :: ss, k, i, h1, h2, hi => by
    simp only [List.length_cons] at h1 h2 hi
    rw [fndF]
    cases i with
    | zero =>
      simp only [Nat.add_zero, List.getD_cons_zero]
      have hno : hasI (fndF ms rs ss (k + 1)) (k : Int) = false := by
        unfold hasI
        rw [List.any_eq_false]
        intro q hq
        have := fndF_rng ms rs ss (k + 1) q hq
        simp only [decide_eq_true_eq]; omega
      cases hf : fnd m r s with
      | true => rw [if_pos rfl]; show (decide ((k : Int) = k) || _) = true; simp
      | false => rw [if_neg (by simp)]; exact hno
    | succ i =>
      have ih := fndF_mem ms rs ss (k + 1) i (by omega) (by omega) (by omega)
      simp only [List.getD_cons_succ]
      rw [show k + (i + 1) = k + 1 + i by omega]
      split
      · show (decide ((k : Int) = ((k + 1 + i : Nat) : Int)) || hasI _ _) = _
        rw [decide_eq_false (by omega), Bool.false_or]; exact ih
      · exact ih
/-- the two ways to say that a set finds a fake -/
theorem shw_ref (ms : List Meas) (tk : List Int) (f : FakeV) (set : List Int) (h1 : tk.length = ms.length) (h2 : f.has.length = ms.length) (hs : ∀ i ∈ set, 0 ≤ i ∧ i < ms.length) : rshw ms tk f set = shwF ms tk set f := by
  have key : ∀ i : Int, 0 ≤ i → i < ms.length → hasI (foundL ms tk f) i = fnd (ms.getD i.toNat default) (tk.getD i.toNat default) (f.has.getD i.toNat default) := by
    intro i h3 h4
    have := fndF_mem ms tk f.has 0 i.toNat h1 h2 (by omega)
    rw [show ((0 + i.toNat : Nat) : Int) = i by omega] at this
    exact this
  rw [Bool.eq_iff_iff]
  unfold rshw shwF shw1
  rw [List.any_eq_true, List.any_eq_true]
  constructor
  · rintro ⟨i, hi, h⟩
    have h3 := hs i hi
    unfold fndA at h
    rw [← key i h3.1 h3.2] at h
    unfold hasI at h
    obtain ⟨q, hq, he⟩ := List.any_eq_true.1 h
    have : q = i := of_decide_eq_true he
    subst this
    refine ⟨q, hq, ?_⟩
    unfold hasI
    exact List.any_eq_true.2 ⟨q, hi, decide_eq_true rfl⟩
  · rintro ⟨i, hi, h⟩
    unfold hasI at h
    obtain ⟨q, hq, he⟩ := List.any_eq_true.1 h
    have : q = i := of_decide_eq_true he
    subst this
    have h3 := hs q hq
    refine ⟨q, hq, ?_⟩
    unfold fndA
    rw [← key q h3.1 h3.2]
    unfold hasI
    exact List.any_eq_true.2 ⟨q, hi, decide_eq_true rfl⟩
theorem memGet {α : Type} [Inhabited α] {l : List α} {i : Nat} (h : i < l.length) : l.getD i default ∈ l := by
  rw [List.getD_eq_getElem?_getD, List.getElem?_eq_getElem h]; exact List.getElem_mem _
theorem shwF_ref {ms : List Meas} {tk : List Int} {f : FakeV} {set : List Int} (h1 : tk.length = ms.length) (h2 : f.has.length = ms.length) (hs : ∀ i ∈ set, 0 ≤ i ∧ i < ms.length) : set.any (fndA ms tk f) = shwF ms tk set f := shw_ref ms tk f set h1 h2 hs
theorem bit_eq (n k : Nat) : (((n / 2 ^ k : Nat) : Int) % 2 == 1) = decide (n / 2 ^ k % 2 = 1) := by
  rw [Bool.eq_iff_iff, beq_iff_eq, decide_eq_true_eq]; omega
end Go.Proofs.YtppfniekcgnmjaaGreat.Pl
namespace Go.Proofs.YtppfniekcgnmjaaGreat.Pl
open Go.Sx Go.RowKit

theorem selF_ok (bits N : Nat) : ∀ (n k : Nat) (p : Int), k + n ≤ N → p < k → setF (N : Int) (selF bits n k) p = true
  | 0, _, _, _, _ => rfl
  | n + 1, k, p, h, hp => by
    rw [selF]
    split
    · rw [setF, selF_ok bits N n (k + 1) k (by omega) (by omega), Bool.and_true, btw, decide_eq_true (show (0 : Int) ≤ k by omega), decide_eq_true (show (k : Int) ≤ (N : Int) - 1 by omega), decide_eq_true hp]; rfl
    · exact selF_ok bits N n (k + 1) p (by omega) (by omega)
theorem sel_setOk (bits n : Nat) : setOk n (selF bits n 0) = true := selF_ok bits n n 0 (-1) (by omega) (by omega)
theorem selF_up (b b' : Nat) : ∀ (n k : Nat), (∀ j, k ≤ j → b / 2 ^ j = b' / 2 ^ j) → selF b n k = selF b' n k
  | 0, _, _ => rfl
  | n + 1, k, h => by rw [selF, selF, h k (Nat.le_refl _), selF_up b b' n (k + 1) (fun j hj => h j (by omega))]
theorem set_bits (N : Nat) : ∀ (n k : Nat) (l : List Int) (p : Int), k + n = N → setF (N : Int) l p = true → (k : Int) - 1 ≤ p → ∃ q, q < 2 ^ n ∧ selF (2 ^ k * q) n k = l
  | 0, k, l, p, hN, h, hp => by
    cases l with
    | nil => exact ⟨0, by decide, rfl⟩
    | cons i l =>
      simp only [setF, btw, Bool.and_eq_true, decide_eq_true_eq] at h
      omega
  | n + 1, k, l, p, hN, h, hp => by
    have hpw : 0 < 2 ^ k := Nat.pow_pos (by decide)
    by_cases hk : ∃ r, l = (k : Int) :: r
    · obtain ⟨r, rfl⟩ := hk
      simp only [setF, btw, Bool.and_eq_true, decide_eq_true_eq] at h
      obtain ⟨q, hq, hs⟩ := set_bits N n (k + 1) r k (by omega) h.2 (by omega)
      refine ⟨2 * q + 1, by rw [Nat.pow_succ]; omega, ?_⟩
      have e0 : 2 ^ k * (2 * q + 1) / 2 ^ k = 2 * q + 1 := Nat.mul_div_cancel_left _ hpw
      rw [selF, e0, if_pos (by omega)]
      congr 1
      rw [← hs]
      refine selF_up _ _ n (k + 1) (fun j hj => ?_)
      obtain ⟨d, rfl⟩ : ∃ d, j = k + 1 + d := ⟨j - (k + 1), by omega⟩
      rw [Nat.pow_add 2 (k + 1) d, ← Nat.div_div_eq_div_mul, ← Nat.div_div_eq_div_mul, Nat.pow_succ, Nat.mul_assoc, Nat.mul_div_mul_left _ _ hpw, Nat.mul_div_mul_left _ _ hpw]
      congr 1
      omega
    · have h2 : setF (N : Int) l k = true := by
        cases l with
        | nil => rfl
        | cons i r =>
          simp only [setF, btw, Bool.and_eq_true, decide_eq_true_eq] at h ⊢
          refine ⟨⟨h.1.1, ?_⟩, h.2⟩
          have h3 : ¬ i = (k : Int) := fun e => hk ⟨r, by rw [e]⟩
          omega
      obtain ⟨q, hq, hs⟩ := set_bits N n (k + 1) l k (by omega) h2 (by omega)
      refine ⟨2 * q, by rw [Nat.pow_succ]; omega, ?_⟩
      have e0 : 2 ^ k * (2 * q) / 2 ^ k = 2 * q := Nat.mul_div_cancel_left _ hpw
      have e1 : 2 ^ k * (2 * q) = 2 ^ (k + 1) * q := by rw [Nat.pow_succ, Nat.mul_assoc]
      rw [selF, e0, if_neg (by omega), e1, hs]
theorem set_sel {n : Nat} {set : List Int} (h : setOk n set = true) : ∃ b, b < 2 ^ n ∧ selF b n 0 = set := by
  obtain ⟨q, h1, h2⟩ := set_bits n n 0 set (-1) (by omega) h (by omega)
  exact ⟨q, h1, by rw [Nat.pow_zero, Nat.one_mul] at h2; exact h2⟩
theorem bestN_sel (ms : List Meas) (tk : List Int) (fs : List FakeV) : ∀ n, 0 ≤ (bestN ms tk fs n).2 → ∃ b, (bestN ms tk fs n).1 = selF b ms.length 0
  | 0, h => absurd (show (0 : Int) ≤ -1 from h) (by decide)
  | n + 1, h => by
    rw [bestN_succ] at h ⊢
    unfold stepL at h ⊢
    split at h
    · rename_i hs
      rw [if_pos hs]
      split at h
      · rename_i hc
        rw [if_pos hc]; exact ⟨n, rfl⟩
      · rename_i hc
        rw [if_neg hc]; exact bestN_sel ms tk fs n h
    · rename_i hs
      rw [if_neg hs]; exact bestN_sel ms tk fs n h
/-- what the least set is -/
structure LeastIs (ms : List Meas) (tk : List Int) (fs : List FakeV) : Prop where
  ok : setOk ms.length (LstS ms tk fs) = true
  sh : shwB ms tk fs (LstS ms tk fs) = true
  lab : LstN ms tk fs = labN ms (LstS ms tk fs)
  least : ∀ set, setOk ms.length set = true → shwB ms tk fs set = true → LstN ms tk fs ≤ labN ms set
theorem lst_0 {ms : List Meas} {tk : List Int} {fs : List FakeV} (h : LstE ms tk fs = 0) : skillE ms tk fs = 0 ∧ ¬ (best ms tk fs).2 < 0 := by
  unfold LstE at h
  split at h
  · rename_i h1
    split at h
    · cases h
    · rename_i h2; exact ⟨h1, h2⟩
  · rename_i h1; exact absurd h h1
theorem leastIs {ms : List Meas} {tk : List Int} {fs : List FakeV} (h : LstE ms tk fs = 0) : LeastIs ms tk fs := by
  obtain ⟨h0, h1⟩ := lst_0 h
  obtain ⟨_, e2, e3⟩ := lst_yes h0 h1
  obtain ⟨hmo, hto, hfo, _⟩ := skill_0 (ms := ms) (tk := tk) (fs := fs) (by rw [h0]; rfl)
  obtain ⟨_, hmb⟩ := meas_bd hmo
  have hP := stP ms tk fs (fun m hm => (hmb m hm).2) (2 ^ ms.length)
  have h2 : 0 ≤ (best ms tk fs).2 := by omega
  obtain ⟨b, hb⟩ := bestN_sel ms tk fs (2 ^ ms.length) h2
  rw [show bestN ms tk fs (2 ^ ms.length) = best ms tk fs from rfl] at hb hP
  refine ⟨by rw [e2, hb]; exact sel_setOk b ms.length, by rw [e2]; exact hP.sh h2, by rw [e3, e2]; exact hP.lab h2, ?_⟩
  intro set hs1 hs2
  obtain ⟨q, hq, rfl⟩ := set_sel hs1
  have h3 := (hP.mi q hq hs2).2
  rw [e3, hP.lab h2]
  unfold ltB at h3
  omega
/-! ### Duality -/
end Go.Proofs.YtppfniekcgnmjaaGreat.Pl
namespace Go.Proofs.YtppfniekcgnmjaaGreat.Pl
open Go.Sx Go.RowKit

def ringI (n m : Int) : Int := if m ≤ 0 then 0 else ((n.tmod m) + m).tmod m
theorem ringI_bd (n m : Int) (hm : 1 ≤ m) : 0 ≤ ringI n m ∧ ringI n m < m := by
  unfold ringI
  rw [if_neg (by omega)]
  have h1 : -m < n.tmod m ∧ n.tmod m < m := by
    rcases Int.lt_or_le n 0 with h | h
    · have h2 := Int.tmod_lt_of_pos (-n) (show (0 : Int) < m by omega)
      have h3 := Int.tmod_nonneg m (show 0 ≤ -n by omega)
      rw [Int.neg_tmod] at h2 h3
      omega
    · have h2 := Int.tmod_lt_of_pos n (show (0 : Int) < m by omega)
      have h3 := Int.tmod_nonneg m h
      omega
  exact ⟨Int.tmod_nonneg m (by omega), Int.tmod_lt_of_pos _ (by omega)⟩
def pickI (l : List Int) (i : Int) : Int := if l.length = 0 then 0 else l.getD (ringI i l.length).toNat default
theorem gd_of {α : Type} {l : List α} {i : Nat} {x : α} (d : α) (h : l[i]? = some x) : l.getD i d = x := by
  rw [List.getD_eq_getElem?_getD, h]; rfl
/-! ### A fake that is swapped in -/
/-- what is read of the fake by a measure of the set; else: nothing -/
def RetOk (m : Meas) (s : Span) (inS : Bool) (r : Int) : Prop := (inS = false ∧ r = -1) ∨ (inS = true ∧ 0 ≤ r ∧ r ≤ 100000 ∧ s.lo - m.tol ≤ r ∧ r ≤ s.hi + m.tol)
def near1 (m : Meas) (t : Int) (s : Span) : Int := min (max t (max 0 (s.lo - m.tol))) (min 100000 (s.hi + m.tol))
theorem near_fnd (m : Meas) (t : Int) (s : Span) (ht : 0 ≤ m.tol ∧ m.tol ≤ 1000) (hr : -1 ≤ t ∧ t ≤ 100000) (hs : 0 ≤ s.lo ∧ s.lo ≤ s.hi ∧ s.hi ≤ 100000) : (-1 ≤ near1 m t s ∧ near1 m t s ≤ 100000) ∧ disag m t (near1 m t s) = fnd m t s := by
  unfold near1
  refine ⟨by omega, ?_⟩
  unfold disag fnd btw
  rw [Bool.eq_iff_iff]
  simp only [Bool.and_eq_true, Bool.or_eq_true, Bool.not_eq_true', decide_eq_true_eq, Bool.and_eq_false_iff, decide_eq_false_iff_not]
  omega
theorem ret_fnd (m : Meas) (t r : Int) (s : Span) (_ht : 0 ≤ m.tol ∧ m.tol ≤ 1000) (h : RetOk m s true r) (hf : fnd m t s = true) : disag m t r = true := by
  rcases h with ⟨h, _⟩ | ⟨_, h⟩
  · cases h
  · unfold fnd at hf
    unfold disag btw
    simp only [Bool.and_eq_true, Bool.or_eq_true, Bool.not_eq_true', decide_eq_true_eq, Bool.and_eq_false_iff, decide_eq_false_iff_not] at hf ⊢
    omega
theorem agrF_at : ∀ (ms : List Meas) (aq bs : List Int), aq.length = ms.length → bs.length = ms.length → (agrF ms aq bs = true ↔ ∀ i, i < ms.length → disag (ms.getD i default) (aq.getD i 0) (bs.getD i 0) = false)
  | [], _, _, _, _ => by simp [agrF]
  | m :: ms, [], _, h, _ => by simp at h
  | m :: ms, a :: aq, [], _, h => by simp at h
  | m :: ms, a :: aq, b :: bs, h1, h2 => by
    have ih := agrF_at ms aq bs (by simpa using h1) (by simpa using h2)
    rw [agrF, Bool.and_eq_true, ih, Bool.not_eq_true']
    constructor
    · rintro ⟨h3, h4⟩ i hi
      cases i with
      | zero => simpa using h3
      | succ i => simpa using h4 i (by simpa using hi)
    · intro h
      refine ⟨by simpa using h 0 (by simp), fun i hi => ?_⟩
      simpa using h (i + 1) (by simpa using hi)
theorem fndF_nil_iff : ∀ (ms : List Meas) (rs : List Int) (ss : List Span) (k : Nat), rs.length = ms.length → ss.length = ms.length → (fndF ms rs ss k = [] ↔ ∀ i, i < ms.length → fnd (ms.getD i default) (rs.getD i 0) (ss.getD i default) = false)
  | [], _, _, _, _, _ => by simp
  | m :: ms, [], _, _, h, _ => by simp at h
  | m :: ms, r :: rs, [], _, _, h => by simp at h
  | m :: ms, r :: rs, s :: ss, k, h1, h2 => by
    have ih := fndF_nil_iff ms rs ss (k + 1) (by simpa using h1) (by simpa using h2)
    rw [fndF]
    constructor
    · intro h i hi
      cases hf : fnd m r s with
      | true => rw [hf] at h; simp at h
      | false =>
        rw [hf, if_neg (by simp)] at h
        cases i with
        | zero => simpa using hf
        | succ i => simpa using ih.1 h i (by simpa using hi)
    · intro h
      have h0 : fnd m r s = false := by simpa using h 0 (by simp)
      rw [h0, if_neg (by simp)]
      exact ih.2 (fun i hi => by simpa using h (i + 1) (by simpa using hi))
/-- what is known of the two lists of readings -/
structure SwapIs (ms : List Meas) (tk : List Int) (f : FakeV) (set : List Int) (rt nr : List Int) : Prop where
  l1 : rt.length = ms.length
  l2 : nr.length = ms.length
  ret : ∀ i, i < ms.length → RetOk (ms.getD i default) (f.has.getD i default) (hasI set i) (rt.getD i 0)
  nea : ∀ i, i < ms.length → nr.getD i 0 = near1 (ms.getD i default) (tk.getD i 0) (f.has.getD i default)
theorem swap_all {ms : List Meas} {tk : List Int} {fs : List FakeV} {f : FakeV} {set rt nr : List Int} (h0 : skillE ms tk fs = 0) (hf : f ∈ fs) (h : SwapIs ms tk f set rt nr) :
    AgrE ms tk rt = 0 ∧ AgrE ms tk nr = 0 ∧ FndE ms tk f = 0 ∧ (setOk ms.length set = true → shwB ms tk fs set = true → AgrB ms tk rt = false) ∧ AgrB ms tk nr = decide (FndL ms tk f = []) := by
  obtain ⟨hmo, hto, hfo, _⟩ := skill_0 (ms := ms) (tk := tk) (fs := fs) (by rw [h0]; rfl)
  obtain ⟨hml, hmb⟩ := meas_bd hmo
  have htb := rdOk_bd hto
  have hfb := (fakes_bd hfo).2 f hf
  have gm : ∀ i, i < ms.length → (0 ≤ (ms.getD i default).tol ∧ (ms.getD i default).tol ≤ 1000) := fun i hi => (hmb _ (memGet hi)).1
  have gt : ∀ i, i < ms.length → (-1 ≤ tk.getD i 0 ∧ tk.getD i 0 ≤ 100000) := fun i hi => htb.2 _ (memGet (l := tk) (by omega))
  have gs : ∀ i, i < ms.length → (0 ≤ (f.has.getD i default).lo ∧ (f.has.getD i default).lo ≤ (f.has.getD i default).hi ∧ (f.has.getD i default).hi ≤ 100000) := fun i hi => hfb.2 _ (memGet (by omega))
  have rd : ∀ l : List Int, l.length = ms.length → (∀ i, i < ms.length → -1 ≤ l.getD i 0 ∧ l.getD i 0 ≤ 100000) → rdOk ms.length l = true := by
    intro l hl hb
    rw [rdOk, Bool.and_eq_true]
    refine ⟨by rw [beq_iff_eq]; omega, List.all_eq_true.2 (fun x hx => ?_)⟩
    obtain ⟨i, hi⟩ := List.mem_iff_getElem?.1 hx
    have hi2 := (List.getElem?_eq_some_iff.1 hi).1
    have := hb i (by omega)
    rw [List.getD_eq_getElem?_getD, hi] at this
    simp only [Option.getD_some] at this
    rw [rd1, btw, decide_eq_true this.1, decide_eq_true this.2]; rfl
  have h1 := rd rt h.l1 (fun i hi => by
    rcases h.ret i hi with ⟨_, h2⟩ | ⟨_, h2⟩
    · omega
    · omega)
  have h2 := rd nr h.l2 (fun i hi => by rw [h.nea i hi]; exact (near_fnd _ _ _ (gm i hi) (gt i hi) (gs i hi)).1)
  have a1 := agr_yes (a := tk) (b := rt) hmo (by rw [hto, h1]; rfl)
  have a2 := agr_yes (a := tk) (b := nr) hmo (by rw [hto, h2]; rfl)
  have hfk : fakesOk ms.length [f] = true := by
    have := (List.all_eq_true.1 (Bool.and_eq_true_iff.1 hfo).2) f hf
    rw [fakesOk, List.all_cons, this]; rfl
  have hz : FndE ms tk f = 0 := by rw [FndE, skillE, hmo, hto, hfk]; rfl
  refine ⟨a1.1, a2.1, hz, fun hs hsh => ?_, ?_⟩
  · have h3 : shwF ms tk set f = true := List.all_eq_true.1 hsh f hf
    have hrg : ∀ i ∈ set, 0 ≤ i ∧ i < (ms.length : Int) := fun i hi => by have := setF_rng ms.length set (-1) hs i hi; omega
    rw [← shwF_ref htb.1 hfb.1 hrg] at h3
    obtain ⟨i, hi, h4⟩ := List.any_eq_true.1 h3
    have hir := hrg i hi
    have hin : hasI set ((i.toNat : Nat) : Int) = true := List.any_eq_true.2 ⟨i, hi, decide_eq_true (by omega)⟩
    have h5 := h.ret i.toNat (by omega)
    rw [hin] at h5
    have h6 := ret_fnd _ (tk.getD i.toNat 0) _ _ (gm i.toNat (by omega)) h5 h4
    rw [a1.2]
    cases hA : agrF ms tk rt with
    | false => rfl
    | true =>
      have := (agrF_at ms tk rt htb.1 h.l1).1 hA i.toNat (by omega)
      rw [this] at h6; cases h6
  · rw [a2.2, FndL, if_pos hz, Bool.eq_iff_iff, decide_eq_true_eq, agrF_at ms tk nr htb.1 h.l2]
    unfold foundL
    rw [fndF_nil_iff ms tk f.has 0 htb.1 hfb.1]
    constructor
    · intro h3 i hi
      rw [← (near_fnd _ _ _ (gm i hi) (gt i hi) (gs i hi)).2, ← h.nea i hi]; exact h3 i hi
    · intro h3 i hi
      rw [h.nea i hi, (near_fnd _ _ _ (gm i hi) (gt i hi) (gs i hi)).2]; exact h3 i hi

/-! ### True readings -/
end Go.Proofs.YtppfniekcgnmjaaGreat.Pl
namespace Go.Proofs.YtppfniekcgnmjaaGreat.Ce
open Go Go.Sx Go.RowKit Um
abbrev ivs (l : List Int) : List Value := l.map fun n => Value.int .i64 n
/-- a row of the table, its first j entries behind the first one done -/
def wrow (l : List Int) (n : Nat) : Nat → List Int
  | 0 => l.set (n * 9) 1
  | j + 1 => (wrow l n j).set (n * 9 + (j + 1)) ((wrow l n j).getD ((n - 1) * 9 + j) 0 + (wrow l n j).getD ((n - 1) * 9 + (j + 1)) 0)
def wl : Nat → List Int
  | 0 => List.replicate 81 0
  | n + 1 => wrow (wl n) n n
def chL : List Int := wl 9
theorem wrow_len (l : List Int) (n : Nat) : ∀ j, (wrow l n j).length = l.length
  | 0 => List.length_set ..
  | j + 1 => by rw [wrow, List.length_set, wrow_len l n j]
theorem wl_len : ∀ n, (wl n).length = 81
  | 0 => by rw [wl, List.length_replicate]
  | n + 1 => by rw [wl, wrow_len, wl_len n]
theorem wrow_bdF : ∀ n j : Fin 9, ((wrow (wl n.val) n.val j.val).all fun x => decide (0 ≤ x) && decide (x ≤ 1000)) = true := by decide +kernel
theorem wrow_bd {n j : Nat} (hn : n < 9) (hj : j < 9) (i : Nat) : 0 ≤ (wrow (wl n) n j).getD i 0 ∧ (wrow (wl n) n j).getD i 0 ≤ 1000 := by
  have h := wrow_bdF ⟨n, hn⟩ ⟨j, hj⟩
  by_cases hi : i < (wrow (wl n) n j).length
  · have h2 := List.all_eq_true.1 h _ (List.mem_of_getElem? (geq 0 hi))
    simpa using h2
  · rw [List.getD_eq_getElem?_getD, List.getElem?_eq_none (by omega)]; exact ⟨Int.le_refl _, by decide⟩
theorem ivs_set (l : List Int) (i : Nat) (x : Int) : (ivs l).set i (.int .i64 x) = ivs (l.set i x) := (List.map_set ..).symm
theorem ivs_get {l : List Int} {i : Nat} (h : i < l.length) : (ivs l)[i]? = some (.int .i64 (l.getD i 0)) := by
  unfold ivs
  rw [List.getElem?_map, geq 0 h]; rfl
theorem wset0 {n : Nat} : (ivs (wl n)).set (0 + ((n : Nat) : Int).toNat * 9 + (0 : Int).toNat * 1) (.int .i64 1) = ivs (wrow (wl n) n 0) := by
  rw [show 0 + ((n : Nat) : Int).toNat * 9 + (0 : Int).toNat * 1 = n * 9 by omega, ivs_set]; rfl
theorem wset1 {n j : Nat} : (ivs (wrow (wl n) n j)).set (0 + ((n : Nat) : Int).toNat * 9 + (((j + 1 : Nat) : Int)).toNat * 1) (.int .i64 ((wrow (wl n) n j).getD ((n - 1) * 9 + j) 0 + (wrow (wl n) n j).getD ((n - 1) * 9 + (j + 1)) 0)) = ivs (wrow (wl n) n (j + 1)) := by
  rw [show 0 + ((n : Nat) : Int).toNat * 9 + (((j + 1 : Nat) : Int)).toNat * 1 = n * 9 + (j + 1) by omega, ivs_set]; rfl
theorem wget {n j : Nat} (a b : Int) {p q : Nat} (ha : a.toNat = p) (hb : b.toNat = q) (hp : p < 9) (hq : q < 9) : (ivs (wrow (wl n) n j))[0 + a.toNat * 9 + b.toNat * 1]? = some (.int .i64 ((wrow (wl n) n j).getD (p * 9 + q) 0)) := by
  rw [ha, hb, show 0 + p * 9 + q * 1 = p * 9 + q by omega]
  exact ivs_get (by rw [wrow_len, wl_len]; omega)
theorem chL_len : chL.length = 81 := wl_len 9
/-- in how many ways to choose q of p -/
def chN (p q : Nat) : Int := chL.getD (p * 9 + q) 0
theorem chL_bd (p q : Nat) : 0 ≤ chN p q ∧ chN p q ≤ 1000 := by
  have h := wrow_bd (n := 8) (j := 8) (by decide) (by decide) (p * 9 + q)
  exact h
theorem ch_at (a b c d : Value) (x y : Int) {p q : Nat} (hx : x.toNat = p) (hy : y.toNat = q) (hp : p < 9) (hq : q < 9) : ([a, b, c, d] ++ ivs chL)[4 + x.toNat * 9 + y.toNat * 1]? = some (.int .i64 (chN p q)) := by
  rw [hx, hy, List.getElem?_append_right (by simp only [List.length_cons, List.length_nil]; omega), show 4 + p * 9 + q * 1 - [a, b, c, d].length = p * 9 + q by simp; omega]
  exact ivs_get (by rw [chL_len]; omega)
theorem tk_all (cs : List Value) {n : Nat} (h : cs.length = n) : Tk n 0 cs cs := ⟨fun j _ => by rw [Nat.zero_add], h⟩
theorem setc_all (vs cs : List Value) (h : vs.length = cs.length) : SetC 0 vs cs vs := ⟨fun j => by
  by_cases hj : j < vs.length
  · rw [if_pos (by omega), Nat.sub_zero]
  · rw [if_neg (by omega), List.getElem?_eq_none (by omega), List.getElem?_eq_none (by omega)], h, by omega⟩
end Go.Proofs.YtppfniekcgnmjaaGreat.Ce
namespace Go.Proofs.YtppfniekcgnmjaaGreat.Ce
open Go Go.Sx Go.RowKit Um
abbrev V5 := { l : List Int // l.length = 5 }
instance : Inhabited V5 := ⟨⟨[0, 0, 0, 0, 0], rfl⟩⟩
abbrev z5 : V5 := ⟨[0, 0, 0, 0, 0], rfl⟩
abbrev enV (k : V5) : List Value := ivs k.1
abbrev ekV (k : V5) : Value := .agg (ivs k.1).toArray
theorem enV_len (k : V5) : (enV k).length = 5 := by simp [k.2]
theorem enV_one (k : V5) : ∀ v ∈ enV k, v.oneCell' = true := by simp [enV, Value.oneCell']
instance (k : V5) : Tk 5 0 (ivs k.1) (ivs k.1) := tk_all _ (enV_len k)
instance (j k : V5) : SetC 0 (ivs k.1) (ivs j.1) (ivs k.1) := setc_all _ _ (by rw [enV_len, enV_len])
instance (k : V5) : SetC 0 (ivs k.1) (ivs [0, 0, 0, 0, 0]) (ivs k.1) := setc_all _ _ (by rw [enV_len]; rfl)
theorem ivs_one (l : List Int) : ((ivs l).all fun v => v.oneCell') = true := by simp [ivs, Value.oneCell']
theorem ivsA_set {x : List Int} {k : Nat} (v : Int) : (ivs x).set (0 + ((k : Nat) : Int).toNat * 1) (.int .i64 v) = ivs (x.set k v) := by
  rw [show 0 + ((k : Nat) : Int).toNat * 1 = k by omega, ivs_set]
theorem ivsA_get {x : List Int} {k : Nat} (h : k < x.length) : (ivs x)[0 + ((k : Nat) : Int).toNat * 1]? = some (.int .i64 (x.getD k 0)) := by
  rw [show 0 + ((k : Nat) : Int).toNat * 1 = k by omega]; exact ivs_get h
/-- one room's age after a day -/
def agedL (r : Int) (i : Nat) (x : List Int) : List Int := if (i : Int) = r then (x.set i (x.getD i 0 + 1)).set i 0 else x.set i (x.getD i 0 + 1)
def aftF (r : Int) : List Int → Nat → List Int → List Int × Bool
  | [], _, x => (x, true)
  | p :: ps, i, x => if p ≤ (agedL r i x).getD i 0 then (agedL r i x, false) else aftF r ps (i + 1) (agedL r i x)
theorem agedL_len (r : Int) (i : Nat) (x : List Int) : (agedL r i x).length = x.length := by
  unfold agedL; split <;> simp
theorem aftF_len (r : Int) : ∀ (ps : List Int) (i : Nat) (x : List Int), (aftF r ps i x).1.length = x.length
  | [], _, _ => rfl
  | p :: ps, i, x => by
    rw [aftF]
    split
    · exact agedL_len r i x
    · rw [aftF_len r ps, agedL_len]
theorem aftF_drop {r : Int} {ps : List Int} {k : Nat} {p : Int} (x : List Int) (h : ps[k]? = some p) : aftF r (ps.drop k) k x = if p ≤ (agedL r k x).getD k 0 then (agedL r k x, false) else aftF r (ps.drop (k + 1)) (k + 1) (agedL r k x) := by
  rw [dropG h, aftF]
theorem agedL_out {r : Int} {k j : Nat} {x : List Int} (h : k < j) : (agedL r k x).getD j 0 = x.getD j 0 := by
  unfold agedL
  have e : ∀ (y : List Int) (v : Int), (y.set k v).getD j 0 = y.getD j 0 := fun y v => by
    rw [List.getD_eq_getElem?_getD, List.getElem?_set_ne (by omega), List.getD_eq_getElem?_getD]
  split <;> simp only [e]
def aftV (ps : List Int) (a : V5) (r : Int) : V5 := ⟨(aftF r ps 0 a.1).1, by rw [aftF_len]; exact a.2⟩
def aftB (ps : List Int) (a : V5) (r : Int) : Bool := (aftF r ps 0 a.1).2
def turB (ps : List Int) : Bool := btw 1 ps.length 5 && ps.all (fun n => btw 1 n 8)
end Go.Proofs.YtppfniekcgnmjaaGreat.Ce
namespace Go.Proofs.YtppfniekcgnmjaaGreat.Ce
open Go Go.Sx Go.RowKit Um
structure SlV where
  A : Option Addr
  c : Nat
  l : List V5
abbrev evS (s : SlV) : Value := .slice s.A s.l.length s.c
abbrev evN (n : Int) : Value := .int .i64 n
abbrev MapA := List (V5 × List V5)
abbrev absM (m : List (V5 × SlV)) : MapA := m.map fun p => (p.1, p.2.l)
theorem getL_abs (m : List (V5 × SlV)) (k : V5) : getL (absM m) k = (getL m k).map (·.l) := by
  induction m with
  | nil => rfl
  | cons p m ih =>
    show (if p.1 = k then some p.2.l else getL (absM m) k) = _
    rw [getL]
    split
    · rfl
    · exact ih
theorem putL_abs (m : List (V5 × SlV)) (k : V5) (s : SlV) : absM (Go.Sx.putL m k s) = Go.Sx.putL (absM m) k s.l := by
  induction m with
  | nil => rfl
  | cons p m ih =>
    show absM (if p.1 = k then (k, s) :: m else p :: Go.Sx.putL m k s) = if p.1 = k then (k, s.l) :: absM m else (p.1, p.2.l) :: Go.Sx.putL (absM m) k s.l
    split
    · rfl
    · rw [← ih]; rfl
theorem putL_put {K V : Type} [DecidableEq K] (l : List (K × V)) (k : K) (u v : V) : Go.Sx.putL (Go.Sx.putL l k u) k v = Go.Sx.putL l k v := by
  induction l with
  | nil => simp [Go.Sx.putL]
  | cons p l ih =>
    rw [Go.Sx.putL, Go.Sx.putL]
    by_cases h : p.1 = k
    · rw [if_pos h, if_pos h, Go.Sx.putL, if_pos rfl]
    · rw [if_neg h, if_neg h, Go.Sx.putL, if_neg h, ih]
theorem getL_same {K V : Type} [DecidableEq K] (l : List (K × V)) (k : K) (v : V) : getL (Go.Sx.putL l k v) k = some v := by rw [getL_put, if_pos rfl]
theorem mem_putL {K V : Type} [DecidableEq K] {l : List (K × V)} {k : K} {v : V} {p : K × V} (h : p ∈ Go.Sx.putL l k v) : p = (k, v) ∨ p ∈ l := by
  induction l with
  | nil => simp [Go.Sx.putL] at h; exact .inl h
  | cons q l ih =>
    rw [Go.Sx.putL] at h
    split at h
    · rcases List.mem_cons.1 h with h | h
      · exact .inl h
      · exact .inr (List.mem_cons_of_mem _ h)
    · rcases List.mem_cons.1 h with h | h
      · exact .inr (h ▸ List.mem_cons_self ..)
      · rcases ih h with h | h
        · exact .inl h
        · exact .inr (List.mem_cons_of_mem _ h)
/-- what a day leads to, if one of the first k rooms is counted -/
def nxtK (ps : List Int) (a : V5) (k : Nat) : List V5 := (List.range k).filterMap fun r : Nat => if aftB ps a (r : Int) = true then some (aftV ps a (r : Int)) else none
theorem nxtK_yes {ps : List Int} {a : V5} {k : Nat} (h : aftB ps a (k : Int) = true) : nxtK ps a (k + 1) = nxtK ps a k ++ [aftV ps a (k : Int)] := by
  unfold nxtK
  rw [List.range_succ, List.filterMap_append]
  simp [h]
theorem nxtK_no {ps : List Int} {a : V5} {k : Nat} (h : aftB ps a (k : Int) = false) : nxtK ps a (k + 1) = nxtK ps a k := by
  unfold nxtK
  rw [List.range_succ, List.filterMap_append]
  simp [h]
theorem nxtK_len (ps : List Int) (a : V5) (k : Nat) : (nxtK ps a k).length ≤ k := by
  unfold nxtK
  have := List.length_filterMap_le (fun r : Nat => if aftB ps a (r : Int) = true then some (aftV ps a (r : Int)) else none) (List.range k)
  rw [List.length_range] at this
  exact this
/-- the queue is gone through -/
def runQ (ps : List Int) : Nat → Nat → List V5 → MapA → Option (List V5 × MapA)
  | 0, _, _, _ => none
  | f + 1, i, q, m => match q[i]? with
    | none => some (q, m)
    | some a => if (getL m a).isSome then runQ ps f (i + 1) q m else runQ ps f (i + 1) (q ++ nxtK ps a ps.length) (Go.Sx.putL m a (nxtK ps a ps.length))
theorem runQ_mem {ps : List Int} : ∀ {f i : Nat} {q : List V5} {m : MapA} {Q : List V5} {M : MapA}, runQ ps f i q m = some (Q, M) → (∀ a ∈ q, a ∈ Q) ∧ q.length ≤ Q.length
  | 0, _, _, _, _, _, h => by cases h
  | f + 1, i, q, m, Q, M, h => by
    rw [runQ] at h
    split at h
    · injection h with h
      injection h with h1 _
      subst h1
      exact ⟨fun _ h => h, Nat.le_refl _⟩
    · split at h
      · exact runQ_mem h
      · obtain ⟨h1, h2⟩ := runQ_mem h
        rw [List.length_append] at h2
        exact ⟨fun a ha => h1 a (List.mem_append_left _ ha), by omega⟩
/-! ### Which ages last -/
def allK (kn : List (V5 × Int)) (l : List V5) : Bool := l.all fun b => (getL kn b).isSome
def maxK (kn : List (V5 × Int)) : List V5 → Int → Int
  | [], n => n
  | b :: l, n => maxK kn l (max n ((getL kn b).getD 0 + 1))
theorem allK_take {kn : List (V5 × Int)} {l : List V5} {k : Nat} {b : V5} (h : l[k]? = some b) : allK kn (l.take (k + 1)) = (allK kn (l.take k) && (getL kn b).isSome) := all_take _ h
theorem maxK_app (kn : List (V5 × Int)) (b : V5) : ∀ (l : List V5) (n : Int), maxK kn (l ++ [b]) n = max (maxK kn l n) ((getL kn b).getD 0 + 1)
  | [], _ => rfl
  | _ :: l, _ => by rw [List.cons_append, maxK, maxK, maxK_app kn b l]
theorem maxK_take {kn : List (V5 × Int)} {l : List V5} {k : Nat} {b : V5} (n : Int) (h : l[k]? = some b) : maxK kn (l.take (k + 1)) n = max (maxK kn (l.take k) n) ((getL kn b).getD 0 + 1) := by
  rw [List.take_add_one, h]; exact maxK_app kn b _ n
/-- what is known is right -/
def GoodK (fk kn : List (V5 × Int)) : Prop := ∀ k v, getL kn k = some v → getL fk k = some v
/-- how many of what can be known are not -/
def cntK (fk kn : List (V5 × Int)) : Nat := (fk.filter fun p => (getL kn p.1).isNone).length
/-- nothing more becomes known -/
def FixK (m : MapA) (kn : List (V5 × Int)) : Prop := ∀ p ∈ m, allK kn p.2 = true → (getL kn p.1).isSome = true
/-- what the table of all that lasts must be -/
structure TabOk (ps : List Int) (m : MapA) (fk : List (V5 × Int)) : Prop where
  sum : ∀ p ∈ m, allK fk p.2 = true → getL fk p.1 = some (maxK fk p.2 0)
  bd : ∀ p ∈ fk, 0 ≤ p.2 ∧ p.2 ≤ 1000
  topo : ∀ (i : Nat) (p : V5 × Int), fk[i]? = some p → ∃ l, (p.1, l) ∈ m ∧ ∀ b ∈ l, ∃ (j : Nat) (q : V5 × Int), j < i ∧ fk[j]? = some q ∧ q.1 = b
theorem getL_mem {K V : Type} [DecidableEq K] {l : List (K × V)} {k : K} {v : V} (h : getL l k = some v) : (k, v) ∈ l := by
  induction l with
  | nil => cases h
  | cons p l ih =>
    rw [getL] at h
    split at h
    · next e => injection h with h; subst e; subst h; exact List.mem_cons_self ..
    · exact List.mem_cons_of_mem _ (ih h)
theorem good_max {fk kn : List (V5 × Int)} (h : GoodK fk kn) : ∀ (l : List V5) (n : Int), allK kn l = true → allK fk l = true ∧ maxK kn l n = maxK fk l n
  | [], _, _ => ⟨rfl, rfl⟩
  | b :: l, n, ha => by
    unfold allK at ha
    rw [List.all_cons, Bool.and_eq_true] at ha
    obtain ⟨v, hv⟩ := Option.isSome_iff_exists.1 ha.1
    have h2 := h b v hv
    obtain ⟨h3, h4⟩ := good_max h l (max n ((getL kn b).getD 0 + 1)) ha.2
    refine ⟨?_, ?_⟩
    · unfold allK; rw [List.all_cons, h2]; exact h3
    · rw [maxK, maxK, h4, hv, h2]
theorem good_put {ps : List Int} {m : MapA} {fk kn : List (V5 × Int)} (hT : TabOk ps m fk) (h : GoodK fk kn) {a : V5} {l : List V5} (hm : (a, l) ∈ m) (ha : allK kn l = true) : GoodK fk (Go.Sx.putL kn a (maxK kn l 0)) ∧ getL fk a = some (maxK kn l 0) := by
  obtain ⟨h1, h2⟩ := good_max h l 0 ha
  have h3 := hT.sum _ hm h1
  simp only at h3
  rw [← h2] at h3
  refine ⟨fun k v hk => ?_, h3⟩
  rw [getL_put] at hk
  split at hk
  · next e => subst e; injection hk with hk; rw [← hk]; exact h3
  · exact h k v hk
theorem cnt_put {fk kn : List (V5 × Int)} {a : V5} {v u : Int} (hf : getL fk a = some u) (hn : getL kn a = none) : cntK fk (Go.Sx.putL kn a v) < cntK fk kn := by
  have hmem := getL_mem hf
  unfold cntK
  have hsub : ∀ p : V5 × Int, (getL (Go.Sx.putL kn a v) p.1).isNone = true → (getL kn p.1).isNone = true := fun p hp => by
    rw [getL_put] at hp
    split at hp
    · cases hp
    · exact hp
  clear hf
  induction fk with
  | nil => cases hmem
  | cons p fk ih =>
    rw [List.filter_cons, List.filter_cons]
    have hle : (fk.filter fun p => (getL (Go.Sx.putL kn a v) p.1).isNone).length ≤ (fk.filter fun p => (getL kn p.1).isNone).length := by
      clear ih hmem
      induction fk with
      | nil => exact Nat.le_refl _
      | cons q fk ih =>
        rw [List.filter_cons, List.filter_cons]
        by_cases h1 : (getL (Go.Sx.putL kn a v) q.1).isNone = true
        · rw [if_pos h1, if_pos (hsub q h1)]; simp only [List.length_cons]; omega
        · rw [if_neg h1]
          split
          · simp only [List.length_cons]; omega
          · exact ih
    rcases List.mem_cons.1 hmem with h | h
    · subst h
      rw [if_neg (by rw [getL_same]; simp), if_pos (by rw [hn]; rfl)]
      simp only [List.length_cons]; omega
    · have := ih h
      by_cases h1 : (getL (Go.Sx.putL kn a v) p.1).isNone = true
      · rw [if_pos h1, if_pos (hsub p h1)]; simp only [List.length_cons]; omega
      · rw [if_neg h1]
        split
        · simp only [List.length_cons]; omega
        · exact this
/-- at the end all is known that can be -/
theorem fix_all {ps : List Int} {m : MapA} {fk kn : List (V5 × Int)} (hT : TabOk ps m fk) (hF : FixK m kn) : ∀ (n i : Nat) (p : V5 × Int), i < n → fk[i]? = some p → (getL kn p.1).isSome = true
  | 0, _, _, h, _ => absurd h (by omega)
  | n + 1, i, p, hi, hp => by
    obtain ⟨l, h1, h2⟩ := hT.topo i p hp
    refine hF _ h1 (List.all_eq_true.2 fun b hb => ?_)
    obtain ⟨j, q, hj, hq, e⟩ := h2 b hb
    rw [← e]
    exact fix_all hT hF n j q (by omega) hq
theorem fix_some {ps : List Int} {m : MapA} {fk kn : List (V5 × Int)} (hT : TabOk ps m fk) (hF : FixK m kn) {k : V5} {v : Int} (h : getL fk k = some v) : (getL kn k).isSome = true := by
  obtain ⟨i, hi⟩ := List.mem_iff_getElem?.1 (getL_mem h)
  exact fix_all hT hF (i + 1) i (k, v) (by omega) hi
/-- what is told in the end -/
def EvOk (m : MapA) (fk kn : List (V5 × Int)) : Prop := ∀ p ∈ m, ∃ v, getL kn p.1 = some v ∧ (v < 0 ↔ getL fk p.1 = none)
theorem good_bd {ps : List Int} {m : MapA} {fk kn : List (V5 × Int)} (hT : TabOk ps m fk) (h : GoodK fk kn) {k : V5} {v : Int} (hk : getL kn k = some v) : 0 ≤ v ∧ v ≤ 1000 := hT.bd _ (getL_mem (h k v hk))
theorem fill5 (y : V5) : Instr.fill (fun i => some (i * 5, 5)) [Value.int .i64 0, .int .i64 0, .int .i64 0, .int .i64 0, .int .i64 0].toArray [(0, .agg (ivs y.1).toArray)] = some (ivs y.1).toArray := by
  obtain ⟨l, h⟩ := y
  match l, h with
  | [a, b, c, d, e], _ => rfl
/-- what the entries that are done hold -/
def rowsM (fp : Nat → Prop) (m : List (V5 × SlV)) : Fact where
  fp := fp
  P := fun w => ∀ p ∈ m, (sl fp 5 enV p.2.A p.2.l).P w
  stab := fun h k p hp => (sl fp 5 enV p.2.A p.2.l).stab h (k p hp)
theorem ow_sl {α : Type} {fp' : Nat → Prop} {e sz c : Nat} {enc : α → List Value} {A : Option Addr} {xs : List α} {w : World} (h : (ow e sz enc A c xs).P w) (he : ∀ x, (enc x).length = sz) (hm : xs.length ≤ maxLen) (hf : ∀ b, (ow e sz enc A c xs).fp b → fp' b) : (sl fp' sz enc A xs).P w := by
  refine ⟨hm, fun hne => ?_⟩
  obtain ⟨a, ha, hc⟩ := ow_cells h he hne
  exact ⟨a, ha, hf _ (by rw [ha]; rfl), hc⟩
theorem ej_frz {C : Cx} {Q : Exit → Act → World → Prop} {en : Exit} {L : Regs} {O S O' : List Fact} (o f : Fact) [hs : SubO (o :: O') O] (hP : ∀ w, Hp C.F C.w0 O S w → f.P w) (hfp : ∀ b, f.fp b → o.fp b ∨ ∃ g ∈ S, g.fp b) (k : EJ C Q en L O' (f :: S)) : EJ C Q en L O S :=
  fun a w hr hp => k a w hr (Hp.frzS hp o f hs.sub (hP w hp) hfp)
theorem rowsM_new {w0 w : World} {O S : List Fact} {F : Nat → Prop} (hp : Hp F w0 O S w) {fp : Nat → Prop} {m : List (V5 × SlV)} {e c : Nat} {A : Option Addr} {l : List V5} {a : V5} (hm : l.length ≤ maxLen) (h : rowsM fp m ∈ S) (ho : ow e 5 enV A c l ∈ O) :
    (rowsM (fun i => fp i ∨ (ow e 5 enV A c l).fp i) (Go.Sx.putL m a ⟨A, c, l⟩)).P w := by
  intro p hpm
  rcases mem_putL hpm with h1 | h1
  · subst h1; exact ow_sl (hp.own _ ho).1 enV_len hm (fun b hb => .inr hb)
  · exact sl_fp ((hp.shared _ h).1 p h1) (fun b hb => .inl hb)
/-- the queue, once the first k rooms are looked at -/
def qN (q : List V5) (ps : List Int) (a : V5) : Nat → List V5
  | 0 => q
  | k + 1 => if aftB ps a (k : Int) = true then qN q ps a k ++ [aftV ps a (k : Int)] else qN q ps a k
theorem qN_eq (q : List V5) (ps : List Int) (a : V5) : ∀ k, qN q ps a k = q ++ nxtK ps a k
  | 0 => by rw [qN]; simp [nxtK]
  | k + 1 => by
    rw [qN]
    cases h : aftB ps a (k : Int) with
    | true => rw [if_pos rfl, qN_eq q ps a k, nxtK_yes h, List.append_assoc]
    | false => rw [if_neg (by simp), qN_eq q ps a k, nxtK_no h]
theorem qN_len (q : List V5) (ps : List Int) (a : V5) (k : Nat) : (qN q ps a k).length ≤ q.length + k := by
  rw [qN_eq, List.length_append]; have := nxtK_len ps a k; omega
theorem runQ_at {ps : List Int} {f i : Nat} {q : List V5} {m : MapA} {a : V5} (h : q[i]? = some a) : runQ ps (f + 1) i q m = if (getL m a).isSome then runQ ps f (i + 1) q m else runQ ps f (i + 1) (q ++ nxtK ps a ps.length) (Go.Sx.putL m a (nxtK ps a ps.length)) := by
  rw [runQ, h]
theorem runQ_end {ps : List Int} {f i : Nat} {q : List V5} {m : MapA} {Q : List V5} {M : MapA} (h : q[i]? = none) (hr : runQ ps f i q m = some (Q, M)) : m = M := by
  cases f with
  | zero => cases hr
  | succ f => rw [runQ, h] at hr; injection hr with hr; injection hr
theorem runQ_pos {ps : List Int} {f i : Nat} {q : List V5} {m : MapA} {R : List V5 × MapA} (hr : runQ ps f i q m = some R) : ∃ g, f = g + 1 := by
  cases f with
  | zero => cases hr
  | succ f => exact ⟨f, rfl⟩
instance (k : V5) : SetC 0 (ivs k.1) [.int .i64 0, .int .i64 0, .int .i64 0, .int .i64 0, .int .i64 0] (ivs k.1) := setc_all _ _ (by rw [enV_len]; rfl)
end Go.Proofs.YtppfniekcgnmjaaGreat.Ce
namespace Go.Proofs.YtppfniekcgnmjaaGreat.Ce
open Go Go.Sx Go.RowKit Um
theorem erase_or {α : Type} {l : List α} {i : Nat} {a x : α} (h : l[i]? = some a) (hx : x ∈ l) : x = a ∨ x ∈ l.eraseIdx i := by
  obtain ⟨j, hj⟩ := List.mem_iff_getElem?.1 hx
  by_cases e : j = i
  · subst e; rw [h] at hj; injection hj with hj; exact .inl hj.symm
  · refine .inr (List.mem_iff_getElem?.2 ?_)
    rcases Nat.lt_or_gt_of_ne e with h1 | h1
    · exact ⟨j, by rw [List.getElem?_eraseIdx, if_pos h1]; exact hj⟩
    · exact ⟨j - 1, by rw [List.getElem?_eraseIdx, if_neg (by omega), show j - 1 + 1 = j by omega]; exact hj⟩
def RdK (fk kn : List (V5 × Int)) (m : List (V5 × SlV)) (ch : Bool) (k2 : List (V5 × Int)) (left : List (V5 × SlV)) : Prop :=
  GoodK fk k2 ∧ (∀ p ∈ left, p ∈ m) ∧ (ch = true → cntK fk k2 < cntK fk kn) ∧ (ch = false → k2 = kn ∧ ∀ p ∈ m, p ∈ left ∨ (allK kn p.2.l = true → (getL kn p.1).isSome = true))
theorem good_nil (fk : List (V5 × Int)) : GoodK fk [] := fun k v h => by cases h
theorem rd_start {fk kn : List (V5 × Int)} (m : List (V5 × SlV)) (h : GoodK fk kn) : RdK fk kn m false kn m := ⟨h, fun _ h => h, fun h => (by cases h), fun _ => ⟨rfl, fun _ h => .inl h⟩⟩
theorem rd_keep {fk kn k2 : List (V5 × Int)} {m left : List (V5 × SlV)} {ch : Bool} {i : Nat} {p : V5 × SlV} (h : RdK fk kn m ch k2 left) (hi : left[i]? = some p) (hs : allK k2 p.2.l = true → (getL k2 p.1).isSome = true) : RdK fk kn m ch k2 (left.eraseIdx i) := by
  obtain ⟨h1, h2, h3, h4⟩ := h
  refine ⟨h1, fun p hp => h2 p (List.mem_of_mem_eraseIdx hp), h3, fun hc => ?_⟩
  obtain ⟨h5, h6⟩ := h4 hc
  subst h5
  refine ⟨rfl, fun q hq => ?_⟩
  rcases h6 q hq with h7 | h7
  · rcases erase_or hi h7 with h8 | h8
    · subst h8; exact .inr hs
    · exact .inl h8
  · exact .inr h7
theorem abs_mem {m : List (V5 × SlV)} {p : V5 × SlV} (h : p ∈ m) : (p.1, p.2.l) ∈ absM m := List.mem_map.2 ⟨p, h, rfl⟩
theorem rd_new {ps : List Int} {fk kn k2 : List (V5 × Int)} {m left : List (V5 × SlV)} {ch : Bool} {i : Nat} {p : V5 × SlV} (hT : TabOk ps (absM m) fk) (h : RdK fk kn m ch k2 left) (hi : left[i]? = some p) (hn : (getL k2 p.1).isSome = false) (ha : allK k2 p.2.l = true) : RdK fk kn m true (Go.Sx.putL k2 p.1 (maxK k2 p.2.l 0)) (left.eraseIdx i) := by
  obtain ⟨h1, h2, h3, h4⟩ := h
  obtain ⟨h5, h6⟩ := good_put hT h1 (abs_mem (h2 p (List.mem_of_getElem? hi))) ha
  have h7 := cnt_put (v := maxK k2 p.2.l 0) h6 (by simpa using hn)
  refine ⟨h5, fun p hp => h2 p (List.mem_of_mem_eraseIdx hp), fun _ => ?_, fun h => by cases h⟩
  cases ch with
  | true => have := h3 rfl; omega
  | false => rw [(h4 rfl).1] at h7 ⊢; exact h7
theorem rd_end {fk kn k2 : List (V5 × Int)} {m : List (V5 × SlV)} {ch : Bool} (h : RdK fk kn m ch k2 []) : GoodK fk k2 ∧ (ch = false → FixK (absM m) k2) := by
  obtain ⟨h1, _, _, h4⟩ := h
  refine ⟨h1, fun hc p hp ha => ?_⟩
  obtain ⟨h5, h6⟩ := h4 hc
  subst h5
  obtain ⟨q, hq, rfl⟩ := List.mem_map.1 hp
  rcases h6 q hq with h7 | h7
  · cases h7
  · exact h7 ha
theorem rd_mu {fk kn k2 : List (V5 × Int)} {m : List (V5 × SlV)} {ch : Bool} (h : RdK fk kn m ch k2 []) : (if ch = true then cntK fk k2 + 1 else 0) < (if true = true then cntK fk kn + 1 else 0) := by
  cases ch with
  | true => have := h.2.2.1 rfl; simp only [if_true]; omega
  | false => simp
def AnK (fk kn : List (V5 × Int)) (m left : List (V5 × SlV)) : Prop :=
  (∀ k v, getL kn k = some v → (v < 0 ↔ getL fk k = none)) ∧ (∀ p ∈ m, p ∈ left ∨ (getL kn p.1).isSome = true) ∧ (∀ k, getL fk k ≠ none → (getL kn k).isSome = true)
theorem an_start {ps : List Int} {fk kn : List (V5 × Int)} {m : List (V5 × SlV)} (hT : TabOk ps (absM m) fk) (hG : GoodK fk kn) (hF : FixK (absM m) kn) : AnK fk kn m m := by
  refine ⟨fun k v h => ?_, fun _ h => .inl h, fun k h => ?_⟩
  · have h1 := good_bd hT hG h
    have h2 := hG k v h
    rw [h2]
    constructor
    · intro h; omega
    · intro h; cases h
  · obtain ⟨v, hv⟩ := Option.ne_none_iff_exists'.1 h
    exact fix_some hT hF hv
theorem an_had {fk kn : List (V5 × Int)} {m left : List (V5 × SlV)} {i : Nat} {p : V5 × SlV} (h : AnK fk kn m left) (hi : left[i]? = some p) (hs : (getL kn p.1).isSome = true) : AnK fk kn m (left.eraseIdx i) := by
  obtain ⟨h1, h2, h3⟩ := h
  refine ⟨h1, fun q hq => ?_, h3⟩
  rcases h2 q hq with h4 | h4
  · rcases erase_or hi h4 with h5 | h5
    · subst h5; exact .inr hs
    · exact .inl h5
  · exact .inr h4
theorem an_new {fk kn : List (V5 × Int)} {m left : List (V5 × SlV)} {i : Nat} {p : V5 × SlV} (h : AnK fk kn m left) (hi : left[i]? = some p) (hs : (getL kn p.1).isSome = false) : AnK fk (Go.Sx.putL kn p.1 (-1)) m (left.eraseIdx i) := by
  have hput : AnK fk (Go.Sx.putL kn p.1 (-1)) m left := by
    obtain ⟨h1, h2, h3⟩ := h
    have hmon : ∀ k, (getL kn k).isSome = true → (getL (Go.Sx.putL kn p.1 (-1)) k).isSome = true := fun k hk => by
      rw [getL_put]; split
      · rfl
      · exact hk
    refine ⟨fun k v hk => ?_, fun q hq => (h2 q hq).imp id (hmon _), fun k hk => hmon _ (h3 k hk)⟩
    rw [getL_put] at hk
    split at hk
    · next e =>
      injection hk with hk
      subst hk
      refine ⟨fun _ => ?_, fun _ => by omega⟩
      cases hf : getL fk k with
      | none => rfl
      | some u =>
        have := h3 k (by rw [hf]; simp)
        rw [← e, hs] at this; cases this
    · exact h1 k v hk
  exact an_had hput hi (by rw [getL_same]; rfl)
theorem an_end {fk kn : List (V5 × Int)} {m : List (V5 × SlV)} (h : AnK fk kn m []) : EvOk (absM m) fk kn := by
  intro p hp
  obtain ⟨q, hq, rfl⟩ := List.mem_map.1 hp
  rcases h.2.1 q hq with h1 | h1
  · cases h1
  · obtain ⟨v, hv⟩ := Option.isSome_iff_exists.1 h1
    exact ⟨v, hv, h.1 _ v hv⟩
end Go.Proofs.YtppfniekcgnmjaaGreat.Ce
namespace Go.Proofs.YtppfniekcgnmjaaGreat.Ce
open Go Go.Sx Go.RowKit Um
def goodT (ps : List Int) (fk : List (V5 × Int)) (a : V5) (r : Nat) : Bool := aftB ps a (r : Int) && (getL fk (aftV ps a (r : Int))).isNone
def runT (ps : List Int) (fk : List (V5 × Int)) : Nat → V5 × List Int
  | 0 => (z5, [])
  | k + 1 => match (List.range ps.length).find? (goodT ps fk (runT ps fk k).1) with
    | none => runT ps fk k
    | some r => (aftV ps (runT ps fk k).1 (r : Int), (runT ps fk k).2 ++ [(r : Int)])
structure MapOk (ps : List Int) (fm : MapA) : Prop where
  z : (getL fm z5).isSome = true
  clo : ∀ p ∈ fm, ∀ r : Nat, r < ps.length → aftB ps p.1 (r : Int) = true → (getL fm (aftV ps p.1 (r : Int))).isSome = true
  bd : ∀ p ∈ fm, ∀ i, 0 ≤ p.1.1.getD i 0 ∧ p.1.1.getD i 0 ≤ 1000
theorem find_first {q : Nat → Bool} : ∀ {n j : Nat}, j < n → (∀ r, r < j → q r = false) → q j = true → (List.range n).find? q = some j := by
  intro n j h1 h2 h3
  induction n with
  | zero => omega
  | succ n ih =>
    rw [List.range_succ, List.find?_append]
    by_cases e : j < n
    · rw [ih e]; rfl
    · have e : j = n := by omega
      subst e
      rw [show (List.range j).find? q = none from List.find?_eq_none.2 fun r hr => by rw [h2 r (List.mem_range.1 hr)]; simp]
      simp [h3]
theorem runT_hit {ps : List Int} {fk : List (V5 × Int)} {k j : Nat} {a : V5} {out : List Int} (h : runT ps fk k = (a, out)) (hj : j < ps.length) (hno : ∀ r, r < j → goodT ps fk a r = false) (hg : goodT ps fk a j = true) : runT ps fk (k + 1) = (aftV ps a (j : Int), out ++ [(j : Int)]) := by
  rw [runT, h, find_first hj hno hg]
theorem runT_miss {ps : List Int} {fk : List (V5 × Int)} {k : Nat} {a : V5} {out : List Int} (h : runT ps fk k = (a, out)) (hno : ∀ r, r < ps.length → goodT ps fk a r = false) : runT ps fk (k + 1) = (a, out) := by
  rw [runT, h, show (List.range ps.length).find? (goodT ps fk a) = none from List.find?_eq_none.2 fun r hr => by rw [hno r (List.mem_range.1 hr)]; simp]
theorem goodT_eq {ps : List Int} {fm : MapA} {fk kn : List (V5 × Int)} (hM : MapOk ps fm) (hev : EvOk fm fk kn) {a : V5} (ha : (getL fm a).isSome = true) {r : Nat} (hr : r < ps.length) : (aftB ps a (r : Int) && decide ((getL kn (aftV ps a (r : Int))).getD 0 < 0)) = goodT ps fk a r := by
  unfold goodT
  cases hb : aftB ps a (r : Int) with
  | false => rfl
  | true =>
    obtain ⟨l, hl⟩ := Option.isSome_iff_exists.1 ha
    obtain ⟨l2, hl2⟩ := Option.isSome_iff_exists.1 (hM.clo _ (getL_mem hl) r hr hb)
    obtain ⟨v, hv, hx⟩ := hev _ (getL_mem hl2)
    rw [hv]
    cases hf : getL fk (aftV ps a (r : Int)) with
    | none => simp [hx.2 hf]
    | some u =>
      have : ¬ v < 0 := fun h => by rw [hx.1 h] at hf; cases hf
      simp [this]
theorem map_bd {ps : List Int} {fm : MapA} (hM : MapOk ps fm) {a : V5} (ha : (getL fm a).isSome = true) : ∀ i, 0 ≤ a.1.getD i 0 ∧ a.1.getD i 0 ≤ 1000 := by
  obtain ⟨l, hl⟩ := Option.isSome_iff_exists.1 ha
  exact hM.bd _ (getL_mem hl)
theorem map_clo {ps : List Int} {fm : MapA} {fk : List (V5 × Int)} (hM : MapOk ps fm) {a : V5} (ha : (getL fm a).isSome = true) {r : Nat} (hr : r < ps.length) (hg : goodT ps fk a r = true) : (getL fm (aftV ps a (r : Int))).isSome = true := by
  obtain ⟨l, hl⟩ := Option.isSome_iff_exists.1 ha
  unfold goodT at hg
  rw [Bool.and_eq_true] at hg
  exact hM.clo _ (getL_mem hl) r hr hg.1
theorem ever_z {fm : MapA} {fk kn : List (V5 × Int)} (hz : (getL fm z5).isSome = true) (hev : EvOk fm fk kn) (hn : getL fk z5 = none) : (getL kn z5).getD 0 < 0 := by
  obtain ⟨l, hl⟩ := Option.isSome_iff_exists.1 hz
  obtain ⟨v, hv, hx⟩ := hev _ (getL_mem hl)
  rw [hv]; exact hx.2 hn
end Go.Proofs.YtppfniekcgnmjaaGreat.Ce
namespace Go.Proofs.YtppfniekcgnmjaaGreat.Ce
open Go Go.Sx Go.RowKit Um
abbrev psX : List Int := [2, 4, 4]
def fkX : List (V5 × Int) := [(⟨[0, 3, 3, 0, 0], rfl⟩, 0), (⟨[1, 0, 3, 0, 0], rfl⟩, 0), (⟨[1, 3, 0, 0, 0], rfl⟩, 0), (⟨[0, 2, 3, 0, 0], rfl⟩, 1), (⟨[0, 3, 2, 0, 0], rfl⟩, 1), (⟨[0, 2, 2, 0, 0], rfl⟩, 1)]
def rqX : List V5 × MapA := (runQ psX 60 0 [z5] []).getD ([], [])
theorem run_x : runQ psX 60 0 [z5] [] = some (rqX.1, rqX.2) := by kernel_rfl
def bd5 (a : V5) : Bool := a.1.all fun x => decide (0 ≤ x) && decide (x ≤ 1000)
theorem bd5_at {a : V5} (h : bd5 a = true) (i : Nat) : 0 ≤ a.1.getD i 0 ∧ a.1.getD i 0 ≤ 1000 := by
  rw [List.getD_eq_getElem?_getD]
  cases hi : a.1[i]? with
  | none => exact ⟨Int.le_refl _, by decide⟩
  | some x =>
    have := List.all_eq_true.1 h x (List.mem_of_getElem? hi)
    simpa using this
theorem bd_x : rqX.1.all bd5 = true := by kernel_rfl
theorem len_x : Nat.ble rqX.1.length 1000 = true := by kernel_rfl
def sumB (m : MapA) (fk : List (V5 × Int)) : Bool := m.all fun p => !(allK fk p.2) || decide (getL fk p.1 = some (maxK fk p.2 0))
def topB (m : MapA) (fk : List (V5 × Int)) : Bool := (List.range fk.length).all fun i => m.any fun e => decide (e.1 = (fk.getD i default).1) && e.2.all fun b => (fk.take i).any fun q => decide (q.1 = b)
def cloB (ps : List Int) (m : MapA) : Bool := m.all fun p => (List.range ps.length).all fun r => !(aftB ps p.1 (r : Int)) || (getL m (aftV ps p.1 (r : Int))).isSome
theorem sum_x : sumB rqX.2 fkX = true := by kernel_rfl
theorem top_x : topB rqX.2 fkX = true := by kernel_rfl
theorem clo_x : cloB psX rqX.2 = true := by kernel_rfl
theorem bdm_x : (rqX.2.all fun p => bd5 p.1) = true := by kernel_rfl
theorem bdf_x : (fkX.all fun p => decide (0 ≤ p.2) && decide (p.2 ≤ 1000)) = true := by kernel_rfl
theorem tab_x : TabOk psX rqX.2 fkX := by
  refine ⟨fun p hp ha => ?_, fun p hp => ?_, fun i p hp => ?_⟩
  · have := List.all_eq_true.1 sum_x p hp
    rw [ha] at this
    simpa using this
  · have := List.all_eq_true.1 bdf_x p hp
    simpa using this
  · have h1 := List.all_eq_true.1 top_x i (List.mem_range.2 (List.getElem?_eq_some_iff.1 hp).1)
    obtain ⟨e, he, h2⟩ := List.any_eq_true.1 h1
    rw [Bool.and_eq_true, decide_eq_true_eq, List.getD_eq_getElem?_getD, hp] at h2
    refine ⟨e.2, ?_, fun b hb => ?_⟩
    · have h3 : e.1 = p.1 := h2.1
      rw [← h3]; exact he
    · obtain ⟨q, hq, h3⟩ := List.any_eq_true.1 (List.all_eq_true.1 h2.2 b hb)
      obtain ⟨j, hj⟩ := List.mem_iff_getElem?.1 hq
      have hji : j < i := by
        have := (List.getElem?_eq_some_iff.1 hj).1
        rw [List.length_take] at this; omega
      rw [List.getElem?_take_of_lt hji] at hj
      exact ⟨j, q, hji, hj, by simpa using h3⟩
theorem map_x : MapOk psX rqX.2 := by
  refine ⟨by kernel_rfl, fun p hp r hr ha => ?_, fun p hp => bd5_at (List.all_eq_true.1 bdm_x p hp)⟩
  have := List.all_eq_true.1 (List.all_eq_true.1 clo_x p hp) r (List.mem_range.2 hr)
  rw [ha] at this
  simpa using this
theorem z_x : getL fkX z5 = none := by kernel_rfl
theorem tur_x : turB psX = true := by kernel_rfl
theorem turns_x : (runT psX fkX 4).2 = [0, 1, 0, 2] := by kernel_rfl
end Go.Proofs.YtppfniekcgnmjaaGreat.Ce
namespace Go.Proofs.YtppfniekcgnmjaaGreat.To
open Go Go.Sx Go.RowKit
open Go.Proofs.YtppfniekcgnmjaaGreat.Pl
/-! ### Each measure of the least set was read -/
theorem setF_filter (n : Int) (q : Int → Bool) : ∀ (l : List Int) (p r : Int), setF n l p = true → r ≤ p → setF n (l.filter q) r = true
  | [], _, _, _, _ => rfl
  | i :: l, p, r, h, hr => by
    rw [setF, Bool.and_eq_true, Bool.and_eq_true, decide_eq_true_eq] at h
    rw [List.filter_cons]
    split
    · rw [setF, h.1.1, decide_eq_true (show r < i by omega), setF_filter n q l i i h.2 (Int.le_refl _)]; rfl
    · exact setF_filter n q l i r h.2 (by omega)
theorem sum_filter (g : Int → Int) (q : Int → Bool) : ∀ l : List Int, (∀ x ∈ l, 1 ≤ g x) → ((l.filter q).map g).sum ≤ (l.map g).sum ∧ (∀ i ∈ l, q i = false → ((l.filter q).map g).sum < (l.map g).sum)
  | [], _ => ⟨Int.le_refl _, fun i hi => by cases hi⟩
  | x :: l, h => by
    obtain ⟨h1, h2⟩ := sum_filter g q l (fun y hy => h y (List.mem_cons_of_mem _ hy))
    have h3 := h x (List.mem_cons_self ..)
    rw [List.filter_cons]
    by_cases hx : q x = true
    · rw [if_pos hx, List.map_cons, List.map_cons, List.sum_cons, List.sum_cons]
      refine ⟨by omega, fun i hi hq => ?_⟩
      rcases List.mem_cons.1 hi with e | e
      · subst e; rw [hx] at hq; cases hq
      · have := h2 i e hq; omega
    · rw [if_neg hx, List.map_cons, List.sum_cons]
      exact ⟨by omega, fun i _ _ => by omega⟩
theorem least_taken {ms : List Meas} {tk : List Int} {fs : List FakeV} (h : LstE ms tk fs = 0) : ∀ i ∈ LstS ms tk fs, (0 ≤ i ∧ i < (ms.length : Int)) ∧ 0 ≤ tk.getD i.toNat 0 := by
  have hL := leastIs h
  obtain ⟨hmo, hto, hfo, _⟩ := skill_0 (ms := ms) (tk := tk) (fs := fs) (by rw [(lst_0 h).1]; rfl)
  obtain ⟨hml, hmb⟩ := meas_bd hmo
  have htl := (rdOk_bd hto).1
  have hfb := (fakes_bd hfo).2
  have hrg : ∀ i ∈ LstS ms tk fs, 0 ≤ i ∧ i < (ms.length : Int) := fun i hi => by have := setF_rng ms.length _ (-1) hL.ok i hi; omega
  intro i hi
  refine ⟨hrg i hi, Int.not_lt.1 fun hlt => ?_⟩
  have h1 : setOk ms.length ((LstS ms tk fs).filter fun j => decide (j ≠ i)) = true := setF_filter _ _ _ (-1) (-1) hL.ok (Int.le_refl _)
  have h2 : shwB ms tk fs ((LstS ms tk fs).filter fun j => decide (j ≠ i)) = true := List.all_eq_true.2 fun f hf => by
    have h3 := List.all_eq_true.1 hL.sh f hf
    rw [← shwF_ref htl (hfb f hf).1 hrg] at h3
    rw [← shwF_ref htl (hfb f hf).1 (fun j hj => hrg j (List.mem_filter.1 hj).1)]
    obtain ⟨j, hj, h4⟩ := List.any_eq_true.1 h3
    refine List.any_eq_true.2 ⟨j, List.mem_filter.2 ⟨hj, decide_eq_true fun e => ?_⟩, h4⟩
    subst e
    have h5 : fnd (ms.getD j.toNat default) (tk.getD j.toNat 0) (f.has.getD j.toNat default) = true := h4
    unfold fnd at h5
    rw [Bool.and_eq_true, decide_eq_true_eq] at h5
    omega
  have h3 := hL.least _ h1 h2
  have h4 := (sum_filter (labAt ms) (fun j => decide (j ≠ i)) (LstS ms tk fs) (fun x hx => (labAt_bd hmb (hrg x hx)).1)).2 i hi (by simp)
  have h5 := hL.lab
  have e1 : labN ms (LstS ms tk fs) = ((LstS ms tk fs).map (labAt ms)).sum := rfl
  have e2 : labN ms ((LstS ms tk fs).filter fun j => decide (j ≠ i)) = (((LstS ms tk fs).filter fun j => decide (j ≠ i)).map (labAt ms)).sum := rfl
  omega
/-! ### What is read -/
def RetN (m : Meas) (t : Int) (inS : Bool) (r : Int) : Prop := (inS = false ∧ r = -1) ∨ (inS = true ∧ 0 ≤ r ∧ r ≤ 100000 ∧ t - 2 * m.tol ≤ r ∧ r ≤ t + 2 * m.tol)
def OneP (m : Meas) (t : Int) (s : Span) (sw inS : Bool) (r : Int) : Prop := if sw = true then RetOk m s inS r else RetN m t inS r
def MeasP (ms : List Meas) (tk : List Int) (f : FakeV) (sw : Bool) (set rd : List Int) : Prop :=
  rd.length = ms.length ∧ ∀ i, i < ms.length → OneP (ms.getD i default) (tk.getD i 0) (f.has.getD i default) sw (hasI set i) (rd.getD i 0)
theorem measP_start (ms : List Meas) (tk : List Int) (f : FakeV) (sw : Bool) : MeasP ms tk f sw [] (List.replicate ms.length (-1)) := by
  refine ⟨List.length_replicate, fun i hi => ?_⟩
  have e : (List.replicate ms.length (-1 : Int)).getD i 0 = -1 := by
    rw [List.getD_eq_getElem?_getD, List.getElem?_replicate, if_pos hi]; rfl
  rw [e]
  unfold OneP
  split
  · exact .inl ⟨rfl, rfl⟩
  · exact .inl ⟨rfl, rfl⟩
theorem measP_step {ms : List Meas} {tk : List Int} {f : FakeV} {sw : Bool} {set rd : List Int} (h : MeasP ms tk f sw set rd) {i : Int} (hi : 0 ≤ i ∧ i < (ms.length : Int)) {v : Int} (hv : OneP (ms.getD i.toNat default) (tk.getD i.toNat 0) (f.has.getD i.toNat default) sw true v) : MeasP ms tk f sw (set ++ [i]) (rd.set i.toNat v) := by
  refine ⟨by rw [List.length_set]; exact h.1, fun j hj => ?_⟩
  have e : hasI (set ++ [i]) (j : Int) = (hasI set j || decide (i = (j : Int))) := by unfold hasI; rw [List.any_append]; simp
  by_cases hij : i.toNat = j
  · subst hij
    have e2 : (rd.set i.toNat v).getD i.toNat 0 = v := by rw [List.getD_eq_getElem?_getD, List.getElem?_set_self (by rw [h.1]; exact hj)]; rfl
    rw [e, decide_eq_true (show i = ((i.toNat : Nat) : Int) by omega), Bool.or_true, e2]
    exact hv
  · have e2 : (rd.set i.toNat v).getD j 0 = rd.getD j 0 := by rw [List.getD_eq_getElem?_getD, List.getElem?_set_ne hij, List.getD_eq_getElem?_getD]
    rw [e, decide_eq_false (show ¬ i = (j : Int) by omega), Bool.or_false, e2]
    exact h.2 j hj
def fillM (n k : Nat) : List Int := List.replicate k (-1) ++ List.replicate (n - k) 0
theorem fillM_len {n k : Nat} (h : k ≤ n) : (fillM n k).length = n := by unfold fillM; rw [List.length_append, List.length_replicate, List.length_replicate]; omega
theorem fillM_set {n k : Nat} (h : k < n) : (fillM n k).set k (-1) = fillM n (k + 1) := by
  unfold fillM
  rw [show n - k = (n - (k + 1)) + 1 by omega, List.replicate_succ, List.set_append_right _ _ (by rw [List.length_replicate]; exact Nat.le_refl _), List.length_replicate, Nat.sub_self, List.set_cons_zero, List.replicate_succ', List.append_assoc]
  rfl
theorem fillM_0 (n : Nat) : List.replicate n (0 : Int) = fillM n 0 := by simp [fillM]
theorem fillM_all (n : Nat) : fillM n n = List.replicate n (-1) := by simp [fillM]
def clampZ (z : Int) : Int := min 100000 (max 0 z)
theorem one_sw {m : Meas} {t : Int} {s : Span} (hs : 0 ≤ s.lo ∧ s.lo ≤ s.hi ∧ s.hi ≤ 100000) (ht : 0 ≤ m.tol ∧ m.tol ≤ 1000) (b c : Int) : OneP m t s true true (clampZ (s.lo + ringI b (s.hi - s.lo + 1) + ringI c (2 * m.tol + 1) - m.tol)) := by
  have h1 := ringI_bd b (s.hi - s.lo + 1) (by omega)
  have h2 := ringI_bd c (2 * m.tol + 1) (by omega)
  unfold OneP
  rw [if_pos rfl]
  refine .inr ⟨rfl, ?_⟩
  unfold clampZ
  omega
theorem one_no {m : Meas} {t : Int} {s : Span} (ht : 0 ≤ m.tol ∧ m.tol ≤ 1000) (hr : 0 ≤ t ∧ t ≤ 100000) (b c : Int) : OneP m t s false true (clampZ (t + ringI b (2 * m.tol + 1) - m.tol + ringI c (2 * m.tol + 1) - m.tol)) := by
  have h1 := ringI_bd b (2 * m.tol + 1) (by omega)
  have h2 := ringI_bd c (2 * m.tol + 1) (by omega)
  unfold OneP
  rw [if_neg (by simp)]
  refine .inr ⟨rfl, ?_⟩
  unfold clampZ
  omega
theorem meas_agr {ms : List Meas} {tk : List Int} {fs : List FakeV} {f : FakeV} {sw : Bool} {rd : List Int} (h : LstE ms tk fs = 0) (hf : f ∈ fs) (hm : MeasP ms tk f sw (LstS ms tk fs) rd) : AgrE ms tk rd = 0 ∧ AgrB ms tk rd = !sw := by
  have hL := leastIs h
  have h0 := (lst_0 h).1
  obtain ⟨hmo, hto, hfo, _⟩ := skill_0 (ms := ms) (tk := tk) (fs := fs) (by rw [h0]; rfl)
  cases sw with
  | true =>
    have hS : SwapIs ms tk f (LstS ms tk fs) rd ((List.range ms.length).map fun i => near1 (ms.getD i default) (tk.getD i 0) (f.has.getD i default)) := by
      refine ⟨hm.1, by simp, fun i hi => ?_, fun i hi => ?_⟩
      · have := hm.2 i hi
        unfold OneP at this
        rw [if_pos rfl] at this
        exact this
      · rw [List.getD_eq_getElem?_getD, List.getElem?_map, List.getElem?_range hi]; rfl
    obtain ⟨h1, _, _, h2, _⟩ := swap_all h0 hf hS
    exact ⟨h1, h2 hL.ok hL.sh⟩
  | false =>
    have hone : ∀ i, i < ms.length → RetN (ms.getD i default) (tk.getD i 0) (hasI (LstS ms tk fs) i) (rd.getD i 0) := fun i hi => by
      have := hm.2 i hi
      unfold OneP at this
      rw [if_neg (by simp)] at this
      exact this
    have h1 : rdOk ms.length rd = true := by
      rw [rdOk, Bool.and_eq_true]
      refine ⟨by rw [beq_iff_eq]; have := hm.1; omega, List.all_eq_true.2 (fun x hx => ?_)⟩
      obtain ⟨i, hi⟩ := List.mem_iff_getElem?.1 hx
      have hi2 := (List.getElem?_eq_some_iff.1 hi).1
      have h2 := hone i (by have := hm.1; omega)
      rw [gd_of (0 : Int) hi] at h2
      rw [rd1, btw]
      rcases h2 with h2 | h2
      · rw [h2.2]; rfl
      · rw [decide_eq_true (show -1 ≤ x by omega), decide_eq_true h2.2.2.1]; rfl
    obtain ⟨e1, e2⟩ := agr_yes (a := tk) (b := rd) hmo (by rw [hto, h1]; rfl)
    refine ⟨e1, ?_⟩
    rw [e2]
    show agrF ms tk rd = true
    rw [agrF_at ms tk rd (rdOk_bd hto).1 hm.1]
    intro i hi
    unfold disag btw
    rw [Bool.eq_false_iff]
    simp only [ne_eq, Bool.and_eq_true, Bool.not_eq_true', decide_eq_true_eq, Bool.and_eq_false_iff, decide_eq_false_iff_not]
    rcases hone i hi with h2 | h2 <;> omega
/-! ### Choices -/
def popN : Nat → Nat → Nat
  | 0, _ => 0
  | k + 1, c => popN k c + (if c / 2 ^ k % 2 = 1 then 1 else 0)
def wrgN (sw : Nat) : Nat → Nat → Bool
  | 0, _ => false
  | k + 1, c => wrgN sw k c || (decide (c / 2 ^ k % 2 = 1) && decide (k < sw))
def cntC (st many : Nat) : Nat → Nat
  | 0 => 0
  | n + 1 => cntC st many n + (if popN st n = many then 1 else 0)
def cntM (st many sw : Nat) : Nat → Nat
  | 0 => 0
  | n + 1 => cntM st many sw n + (if popN st n = many ∧ wrgN sw st n = false then 1 else 0)
theorem popN_le (c : Nat) : ∀ k, popN k c ≤ k
  | 0 => Nat.le_refl _
  | k + 1 => by rw [popN]; have := popN_le c k; split <;> omega
theorem cntC_le (st many : Nat) : ∀ n, cntC st many n ≤ n
  | 0 => Nat.le_refl _
  | n + 1 => by rw [cntC]; have := cntC_le st many n; split <;> omega
theorem cntM_le (st many sw : Nat) : ∀ n, cntM st many sw n ≤ n
  | 0 => Nat.le_refl _
  | n + 1 => by rw [cntM]; have := cntM_le st many sw n; split <;> omega
open Go.Proofs.YtppfniekcgnmjaaGreat.Ce in
theorem tbl_ok : ((List.range 6).all fun st => decide (st = 0) || ((List.range (st + 1)).all fun many => (List.range (st + 1)).all fun sw => decide ((cntC st many (2 ^ st) : Int) = chN st many) && decide ((cntM st many sw (2 ^ st) : Int) = chN (st - sw) many))) = true := by kernel_rfl
open Go.Proofs.YtppfniekcgnmjaaGreat.Ce in
theorem tbl_at {st many sw : Nat} (h1 : 1 ≤ st ∧ st ≤ 5) (h2 : many ≤ st) (h3 : sw ≤ st) : (cntC st many (2 ^ st) : Int) = chN st many ∧ (cntM st many sw (2 ^ st) : Int) = chN (st - sw) many := by
  have h := List.all_eq_true.1 tbl_ok st (List.mem_range.2 (by omega))
  rw [decide_eq_false (show ¬ st = 0 by omega), Bool.false_or] at h
  have h := List.all_eq_true.1 (List.all_eq_true.1 h many (List.mem_range.2 (by omega))) sw (List.mem_range.2 (by omega))
  simpa using h
end Go.Proofs.YtppfniekcgnmjaaGreat.To
namespace Go.Proofs.YtppfniekcgnmjaaGreat.To
open Go.Sx Go.RowKit
set_option maxRecDepth 20000
theorem fa105_0 : FieldIs Tryz.prog 105 0 0 1 false := ⟨⟨_, _, Tryz.underlying105, rfl, rfl, Tryz.sizeOf3, Tryz.isAgg3, by decide⟩⟩
theorem fa105_1 : FieldIs Tryz.prog 105 1 1 1 false := ⟨⟨_, _, Tryz.underlying105, rfl, rfl, Tryz.sizeOf3, Tryz.isAgg3, by decide⟩⟩
theorem fa42_0 : FieldIs Tryz.prog 42 0 0 1 false := ⟨⟨_, _, Tryz.underlying42, rfl, rfl, Tryz.sizeOf39, Tryz.isAgg39, by decide⟩⟩
theorem fa42_1 : FieldIs Tryz.prog 42 1 1 1 false := ⟨⟨_, _, Tryz.underlying42, rfl, rfl, Tryz.sizeOf23, Tryz.isAgg23, by decide⟩⟩
theorem fa52_0 : FieldIs Tryz.prog 52 0 0 1 false := ⟨⟨_, _, Tryz.underlying52, rfl, rfl, Tryz.sizeOf50, Tryz.isAgg50, by decide⟩⟩
theorem fa91_0 : FieldIs Tryz.prog 91 0 0 1 false := ⟨⟨_, _, Tryz.underlying91, rfl, rfl, Tryz.sizeOf3, Tryz.isAgg3, by decide⟩⟩
end Go.Proofs.YtppfniekcgnmjaaGreat.To
namespace Go.Proofs.YtppfniekcgnmjaaGreat.To
open Go.Sx Go.RowKit Um
set_option maxRecDepth 20000
theorem k_Ring (n m : Int) (w : World) (hm : m ≤ 4611686018427387904) : Calls Tryz.prog 9 #[.int .i64 n, .int .i64 m] w (fun e w' => e = .returned (.int .i64 (ringI n m)) ∧ Grow w w') := by
  refine enter_pure (args := [.int .i64 n, .int .i64 m]) [] Tryz.func9 rfl (by rw [Tryz.ntmps9]; simp) (by simp) ?_
  refine cj_seq ?_
  refine cj_regionG (gj_step (y_assign rfl) rfl rfl rfl (gj_nil ?_))
  refine ej_th (cj_seq (cj_seq ?_))
  refine cj_regionG (gj_step (y_move rfl) rfl rfl rfl (gj_step (y_leq rfl rfl) rfl rfl rfl (gj_nil ?_)))
  refine ej_th ?_
  refine cj_cond rfl (fun h6 => ?_) (fun h6 => ?_)
  · have h6b := h6
    try simp only [sxb] at h6
    refine cj_seq ?_
    refine cj_regionG (gj_step (y_assign rfl) rfl rfl rfl (gj_nil ?_))
    refine ej_th (cj_ret (ej_then_ret ?_))
    refine ej_ret1 rfl Tryz.results9 rfl (fun w' hp => ⟨?_, hp.below⟩)
    rw [ringI, if_pos h6]
  · have h6b := h6
    try simp only [sxb] at h6
    refine cj_skip (ej_th (cj_seq ?_))
    refine cj_regionG (gj_step (y_move rfl) rfl rfl rfl (gj_step (y_move rfl) rfl rfl rfl (gj_step (y_remw rfl rfl (by omega)) rfl rfl rfl (gj_step (y_move rfl) rfl rfl rfl (gj_step (y_add rfl rfl (by have h1 := Int.tmod_lt_of_pos n (show 0 < m by omega); have h2 := Int.lt_tmod_of_pos n (show 0 < m by omega); omega)) rfl rfl rfl (gj_step (y_move rfl) rfl rfl rfl (gj_step (y_remw rfl rfl (by omega)) rfl rfl rfl (gj_step (y_assign rfl) rfl rfl rfl (gj_nil ?_)))))))))
    refine ej_th (cj_ret ?_)
    refine ej_ret1 rfl Tryz.results9 rfl (fun w' hp => ⟨?_, hp.below⟩)
    rw [ringI, if_neg (by omega)]

theorem k_Pick (l : List Int) (A : Option Addr) (c : Nat) (i : Int) (w : World) (hl : Rd w 1 enInt A l) (h8 : l.length * 8 ≤ 140737488351232) : Calls Tryz.prog 15 #[.slice A l.length c, .int .i64 i] w (fun e w' => e = .returned (.int .i64 (pickI l i)) ∧ Grow w w') := by
  refine enter_pure (args := [.slice A l.length c, .int .i64 i]) [sl (fun b => b < w.heap.size) 1 enInt A l] Tryz.func15 rfl (by rw [Tryz.ntmps15]; simp) (fun g hg => by simp at hg; subst hg; exact ⟨hl, fun _ h => h⟩) ?_
  refine cj_seq ?_
  refine cj_regionG (gj_step (y_assign rfl) rfl rfl rfl (gj_nil ?_))
  refine ej_th (cj_seq (cj_seq ?_))
  refine cj_regionG (gj_step (y_move rfl) rfl rfl rfl (gj_step (y_lenA Tryz.underlying23 rfl) rfl rfl rfl (gj_step (y_eql rfl rfl) rfl rfl rfl (gj_nil ?_))))
  refine ej_th ?_
  refine cj_cond rfl (fun h7 => ?_) (fun h7 => ?_)
  · have h7b := h7
    try simp only [sxb] at h7
    refine cj_seq ?_
    refine cj_regionG (gj_step (y_assign rfl) rfl rfl rfl (gj_nil ?_))
    refine ej_th (cj_ret (ej_then_ret ?_))
    refine ej_ret1 rfl Tryz.results15 rfl (fun w' hp => ⟨?_, hp.below⟩)
    rw [pickI, if_pos (show l.length = 0 by omega)]
  · have h7b := h7
    try simp only [sxb] at h7
    have hne : ¬ l.length = 0 := by omega
    have hrb := ringI_bd i l.length (by omega)
    refine cj_skip (ej_th (cj_seq ?_))
    refine cj_regionG ?_
    refine gj_step (y_move rfl) rfl rfl rfl (gj_step (y_move rfl) rfl rfl rfl (gj_step (y_move rfl) rfl rfl rfl (gj_step (y_lenA Tryz.underlying23 rfl) rfl rfl rfl (?_))))
    refine gj_step (y_call Tryz.call9 rfl (fun w hp => k_Ring _ _ w (by omega))) rfl rfl rfl ?_
    refine gj_step (y_ixR (reads_sl) Tryz.underlying23 Tryz.sizeOf3 rfl rfl (⟨by omega, by omega⟩)) rfl rfl rfl (gj_step (y_ld0 (reads_sl) Tryz.isAgg3 rfl (geq default (by omega)) rfl) rfl rfl rfl (gj_step (y_assign rfl) rfl rfl rfl (?_)))
    refine gj_nil ?_
    refine ej_th (cj_ret ?_)
    refine ej_ret1 rfl Tryz.results15 rfl (fun w' hp => ⟨?_, hp.below⟩)
    rw [pickI, if_neg hne]

theorem k_From (lo n hi : Int) (w : World)  : Calls Tryz.prog 11 #[.int .i64 lo, .int .i64 n, .int .i64 hi] w (fun e w' => e = .returned (.bool (btw lo n hi)) ∧ Grow w w') := by
  refine enter_pure (args := [.int .i64 lo, .int .i64 n, .int .i64 hi]) [] Tryz.func11 rfl (by rw [Tryz.ntmps11]; simp) (by simp) ?_
  refine cj_seq ?_
  refine cj_regionG (gj_step (y_assign rfl) rfl rfl rfl (gj_nil ?_))
  refine ej_th (cj_seq ?_)
  refine cj_regionG (gj_step (y_move rfl) rfl rfl rfl (gj_step (y_move rfl) rfl rfl rfl (gj_step (y_leq rfl rfl) rfl rfl rfl (gj_step (y_move rfl) rfl rfl rfl (gj_g 3 10 13 rfl rfl rfl rfl (fun hg10 => gj_yes rfl rfl rfl (y_move rfl) rfl rfl (gj_yes rfl rfl rfl (y_move rfl) rfl rfl (gj_yes rfl rfl rfl (y_leq rfl rfl) rfl rfl (gj_nil rfl)))) (gj_step (y_and rfl rfl rfl) rfl rfl rfl (gj_step (y_assign rfl) rfl rfl rfl (gj_nil ?_))))))))
  refine ej_th (cj_ret ?_)
  exact ej_ret1 rfl Tryz.results11 rfl (fun w' hp => ⟨rfl, hp.below⟩)

theorem k_Bit (n k : Nat) (w : World) (hk : k ≤ 64) : Calls Tryz.prog 16 #[.int .i64 (n : Nat), .int .i64 (k : Nat)] w (fun e w' => e = .returned (.bool (decide (n / 2 ^ k % 2 = 1))) ∧ Grow w w') := by
  refine enter_pure (args := [.int .i64 (n : Nat), .int .i64 (k : Nat)]) [] Tryz.func16 rfl (by rw [Tryz.ntmps16]; simp) (by simp) ?_
  refine cj_seq ?_
  refine cj_regionG (gj_step (y_assign rfl) rfl rfl rfl (gj_nil ?_))
  refine ej_th (cj_seq ?_)
  refine cj_regionG (gj_step (y_move rfl) rfl rfl rfl (gj_step (y_move rfl) rfl rfl rfl (gj_step (y_shr rfl rfl hk) rfl rfl rfl (gj_step (y_rem rfl rfl (Int.natCast_nonneg _) (by omega)) rfl rfl rfl (gj_step (y_eql rfl rfl) rfl rfl rfl (gj_step (y_assign rfl) rfl rfl rfl (gj_nil ?_)))))))
  refine ej_th (cj_ret ?_)
  refine ej_ret1 rfl Tryz.results16 rfl (fun w' hp => ⟨?_, hp.below⟩)
  rw [← Pl.bit_eq]

set_option maxHeartbeats 4000000 in
theorem k_measured (ms : List Pl.Meas) (A : Option Addr) (c : Nat) (tk : List Int) (At : Option Addr) (ct : Nat) (Ax : Option Addr) (cx nf : Nat) (set : List Int) (As : Option Addr) (cs : Nat) (f : Pl.FakeV) (sw : Bool) (bits : List Int) (Ab : Option Addr) (cb : Nat) (k : Nat) (w : World) (hm : Rd w 2 Pl.encMe A ms) (ht : Rd w 1 enInt At tk) (hs0 : Rd w 1 enInt As set) (hf0 : Rd w 2 Pl.encSp f.A f.has) (hb0 : Rd w 1 enInt Ab bits) (hb8 : bits.length * 8 ≤ 140737488351232) (hml : ms.length ≤ 8) (htl : tk.length = ms.length) (hfl : f.has.length = ms.length) (hs8 : set.length ≤ 8) (hk5 : k ≤ 5) (hmb : ∀ m ∈ ms, 0 ≤ m.tol ∧ m.tol ≤ 1000) (htb : ∀ x ∈ tk, x ≤ 100000) (hfb : ∀ s ∈ f.has, 0 ≤ s.lo ∧ s.lo ≤ s.hi ∧ s.hi ≤ 100000) (hset : ∀ i ∈ set, (0 ≤ i ∧ i < (ms.length : Int)) ∧ 0 ≤ tk.getD i.toNat 0) : Calls Tryz.prog 17 #[.agg #[.slice A ms.length c, .slice At tk.length ct, .slice Ax nf cx], .slice As set.length cs, Pl.evFk f, .bool sw, .slice Ab bits.length cb, .int .i64 (k : Nat)] w (fun e w' => ∃ A1 c1 rd, e = .returned (.tuple #[.slice A1 rd.length c1, .bool true]) ∧ Grow w w' ∧ Res w w' 1 enInt A1 rd ∧ MeasP ms tk f sw set rd) := by
  
  refine enter_pure (args := [.agg #[.slice A ms.length c, .slice At tk.length ct, .slice Ax nf cx], .slice As set.length cs, Pl.evFk f, .bool sw, .slice Ab bits.length cb, .int .i64 (k : Nat)]) [sl (fun b => b < w.heap.size) 2 Pl.encMe A ms, sl (fun b => b < w.heap.size) 1 enInt At tk, sl (fun b => b < w.heap.size) 1 enInt As set, sl (fun b => b < w.heap.size) 2 Pl.encSp f.A f.has, sl (fun b => b < w.heap.size) 1 enInt Ab bits] Tryz.func17 rfl (by rw [Tryz.ntmps17]; simp) (fun g hg => by simp at hg; rcases hg with rfl | rfl | rfl | rfl | rfl; exact ⟨hm, fun _ h => h⟩; exact ⟨ht, fun _ h => h⟩; exact ⟨hs0, fun _ h => h⟩; exact ⟨hf0, fun _ h => h⟩; exact ⟨hb0, fun _ h => h⟩) ?_
  refine cj_seq (cj_region ?_)
  refine oj_box rfl rfl rfl (fun b6 => ?_)
  refine oj_box rfl rfl rfl (fun b8 => ?_)
  refine oj_step (y_assign rfl) rfl rfl rfl ?_
  refine oj_step (y_assign rfl) rfl rfl rfl ?_
  refine oj_nil ?_
  refine ej_th (cj_seq (cj_region ?_))
  refine oj_step (y_fa0 fa42_0 rfl) rfl rfl rfl ?_
  refine oj_step (y_load1 Tryz.isAgg39 rfl rfl) rfl rfl rfl ?_
  refine oj_step (y_lenA Tryz.underlying39 rfl) rfl rfl rfl ?_
  refine oj_makeSlice1 (n := ms.length) Tryz.underlying23 Tryz.type3 rfl rfl rfl rfl rfl (by show 8 * _ ≤ _; omega) (by omega) rfl (fun b23 => ?_)
  refine oj_litOw (b := b23) (e := 3) (c := ms.length) (sz := 1) (enc := enInt) (List.replicate (ms.length) (0 : Int)) (by simp) (replicate_enInt _) (by simp) (by unfold maxLen; omega) ?_
  refine oj_step (y_assign rfl) rfl rfl rfl ?_
  refine oj_nil ?_
  refine ej_th (cj_seq (cj_seq ?_))
  refine cj_regionG (gj_step (y_assign rfl) rfl rfl rfl (gj_nil ?_))
  refine ej_th (cj_block ?_)
  rw [fillM_0]
  refine cj_lpi (X := Nat) [(1, _), (3, _), (4, _), (5, _), (6, _), (8, _), (12, _), (13, _), (14, _)] (fun k2 => k2 ≤ ms.length) (fun k2 => [(15, .int .i64 (k2 : Nat))]) (fun k2 => [ow 3 1 enInt (some ⟨b23, 0, none⟩) ms.length (fillM ms.length k2), ownB b8 (cellsB 52 [.slice f.A f.has.length f.c]), ownB b6 (cellsB 42 [.slice A ms.length c, .slice At tk.length ct, .slice Ax nf cx])]) (fun k2 => [sl (fun b => b < w.heap.size) 2 Pl.encMe A ms, sl (fun b => b < w.heap.size) 1 enInt At tk, sl (fun b => b < w.heap.size) 1 enInt As set, sl (fun b => b < w.heap.size) 2 Pl.encSp f.A f.has, sl (fun b => b < w.heap.size) 1 enInt Ab bits]) (fun k2 => ms.length - k2) 0 (Nat.zero_le _) ⟨rfl, rfl, rfl, rfl, rfl, rfl, rfl, rfl, rfl, rfl, trivial⟩ ?_
  rintro k2 hk2
  dsimp only [List.cons_append, List.nil_append]
  refine cj_seq (cj_seq ?_)
  refine cj_regionG (gj_step (y_move rfl) rfl rfl rfl (gj_step (y_move rfl) rfl rfl rfl (gj_step (y_lenA Tryz.underlying23 rfl) rfl rfl rfl (gj_step (y_lss rfl rfl) rfl rfl rfl (gj_nil ?_)))))
  refine ej_th ?_
  refine cj_cond rfl (fun h27 => ?_) (fun h27 => ?_)
  · have h27b := h27
    try simp only [sxb] at h27
    refine cj_skip (ej_th (cj_seq (cj_block (cj_region ?_))))
    refine oj_step (y_move rfl) rfl rfl rfl ?_
    refine oj_step (y_move rfl) rfl rfl rfl ?_
    refine oj_step (y_ixRm (m := ms.length) (xs := fillM ms.length k2) (fillM_len (by omega)).symm (reads_ow enInt_len) Tryz.underlying23 Tryz.sizeOf3 rfl rfl ⟨by omega, by omega⟩) rfl rfl rfl ?_
    refine oj_storeE (i := k2) (u := -1) rfl rfl rfl rfl Tryz.sizeOf3 (fun _ => rfl) (by rw [fillM_len (by omega)]; omega) ?_
    refine oj_nil ?_
    refine ej_blk (ej_th ?_)
    refine cj_regionG (gj_step (y_move rfl) rfl rfl rfl (gj_step (y_add rfl rfl (by omega)) rfl rfl rfl (gj_step (y_assign rfl) rfl rfl rfl (gj_nil ?_))))
    rw [fillM_set (by omega)]
    exact ej_nx (k2 + 1) (by omega) (by omega) ⟨rfl, rfl, rfl, rfl, rfl, rfl, rfl, rfl, rfl, rfl, trivial⟩
  · have h27b := h27
    try simp only [sxb] at h27
    have hk2e : k2 = ms.length := by omega
    subst hk2e
    rw [fillM_all]
    refine cj_exit (ej_then_exit (ej_then_exit (ej_blk_hit (ej_th (cj_seq (cj_seq ?_))))))
    refine cj_regionG (gj_step (y_assign rfl) rfl rfl rfl (gj_nil ?_))
    refine ej_th (cj_block ?_)
    refine cj_lpi (X := Nat × List Int) [(1, _), (3, _), (4, _), (5, _), (6, _), (8, _), (14, _)] (fun ⟨j, rd⟩ => j ≤ set.length ∧ MeasP ms tk f sw (set.take j) rd) (fun ⟨j, rd⟩ => [(16, .int .i64 (j : Nat))]) (fun ⟨j, rd⟩ => [ow 3 1 enInt (some ⟨b23, 0, none⟩) ms.length (rd), ownB b8 (cellsB 52 [.slice f.A f.has.length f.c]), ownB b6 (cellsB 42 [.slice A ms.length c, .slice At tk.length ct, .slice Ax nf cx])]) (fun ⟨j, rd⟩ => [sl (fun b => b < w.heap.size) 2 Pl.encMe A ms, sl (fun b => b < w.heap.size) 1 enInt At tk, sl (fun b => b < w.heap.size) 1 enInt As set, sl (fun b => b < w.heap.size) 2 Pl.encSp f.A f.has, sl (fun b => b < w.heap.size) 1 enInt Ab bits]) (fun ⟨j, rd⟩ => set.length - j) (0, List.replicate ms.length (-1)) (⟨Nat.zero_le _, measP_start ms tk f sw⟩) ⟨rfl, rfl, rfl, rfl, rfl, rfl, rfl, rfl, trivial⟩ ?_
    rintro ⟨j, rd⟩ ⟨hj, hme⟩
    dsimp only [List.cons_append, List.nil_append]
    refine cj_seq (cj_seq ?_)
    refine cj_regionG (gj_step (y_move rfl) rfl rfl rfl (gj_step (y_move rfl) rfl rfl rfl (gj_step (y_lenA Tryz.underlying23 rfl) rfl rfl rfl (gj_step (y_lss rfl rfl) rfl rfl rfl (gj_nil ?_)))))
    refine ej_th ?_
    refine cj_cond rfl (fun h36 => ?_) (fun h36 => ?_)
    · have h36b := h36
      try simp only [sxb] at h36
      obtain ⟨i, hx⟩ : ∃ i, set[j]? = some i := ⟨_, List.getElem?_eq_getElem (by omega)⟩
      obtain ⟨hir, hit⟩ := hset i (List.mem_of_getElem? hx)
      obtain ⟨m, hm1⟩ : ∃ m, ms[i.toNat]? = some m := ⟨_, List.getElem?_eq_getElem (by omega)⟩
      obtain ⟨t, ht1⟩ : ∃ t, tk[i.toNat]? = some t := ⟨_, List.getElem?_eq_getElem (by omega)⟩
      obtain ⟨s, hs1⟩ : ∃ s, f.has[i.toNat]? = some s := ⟨_, List.getElem?_eq_getElem (by omega)⟩
      have hmt := hmb m (List.mem_of_getElem? hm1)
      have htt := htb t (List.mem_of_getElem? ht1)
      have hst := hfb s (List.mem_of_getElem? hs1)
      rw [gd_of (0 : Int) ht1] at hit
      have hr1 := ringI_bd (pickI bits ((k : Int) + (j : Nat) + 1)) (s.hi - s.lo + 1) (by omega)
      have hr2 := ringI_bd (pickI bits ((k : Int) + (j : Nat) + 1)) (2 * m.tol + 1) (by omega)
      have hr3 := ringI_bd (pickI bits (2 * (k : Int) + (j : Nat) + 3)) (2 * m.tol + 1) (by omega)
      refine cj_skip (ej_th (cj_seq (cj_block (cj_seq ?_))))
      refine cj_regionG (gj_step (y_move rfl) rfl rfl rfl (gj_step (y_move rfl) rfl rfl rfl (gj_step (y_ixR (reads_sl) Tryz.underlying23 Tryz.sizeOf3 rfl rfl (⟨by omega, by omega⟩)) rfl rfl rfl (gj_step (y_ld0 (reads_sl) Tryz.isAgg3 rfl (hx) rfl) rfl rfl rfl (gj_step (y_assign rfl) rfl rfl rfl (gj_nil ?_))))))
      refine ej_th (cj_seq (cj_seq ?_))
      refine cj_regionG ?_
      refine gj_step (y_move rfl) rfl rfl rfl (gj_step (y_fa0 fa42_0 rfl) rfl rfl rfl (gj_step (y_load1 Tryz.isAgg39 rfl rfl) rfl rfl rfl (gj_step (y_lenA Tryz.underlying39 rfl) rfl rfl rfl (gj_step (y_sub rfl rfl (by omega)) rfl rfl rfl (?_)))))
      refine gj_step (y_call Tryz.call11 rfl (fun w hp => k_From _ _ _ w)) rfl rfl rfl ?_
      refine gj_step (y_not rfl) rfl rfl rfl (gj_step (y_move rfl) rfl rfl rfl (?_))
      refine gj_g 5 50 55 rfl rfl rfl rfl (fun hg50 => gj_yes rfl rfl rfl (y_move rfl) rfl rfl (gj_yes rfl rfl rfl (y_fa0 fa52_0 rfl) rfl rfl (gj_yes rfl rfl rfl (y_load1 Tryz.isAgg50 rfl rfl) rfl rfl (gj_yes rfl rfl rfl (y_lenA Tryz.underlying50 rfl) rfl rfl (gj_yes rfl rfl rfl (y_geq rfl rfl) rfl rfl (gj_nil rfl)))))) ?_
      refine gj_step (y_or rfl rfl rfl) rfl rfl rfl (gj_step (y_move rfl) rfl rfl rfl (?_))
      refine gj_g 5 57 62 rfl rfl rfl rfl (fun hg57 => gj_yes rfl rfl rfl (y_move rfl) rfl rfl (gj_yes rfl rfl rfl (y_fa fa42_1 rfl) rfl rfl (gj_yes rfl rfl rfl (y_load1 Tryz.isAgg23 rfl rfl) rfl rfl (gj_yes rfl rfl rfl (y_lenA Tryz.underlying23 rfl) rfl rfl (gj_yes rfl rfl rfl (y_geq rfl rfl) rfl rfl (gj_nil rfl)))))) ?_
      refine gj_step (y_or rfl rfl rfl) rfl rfl rfl (gj_step (y_move rfl) rfl rfl rfl (?_))
      refine gj_g 6 64 70 rfl rfl rfl rfl (fun hg64 => gj_yes rfl rfl rfl (y_fa fa42_1 rfl) rfl rfl (gj_yes rfl rfl rfl (y_load1 Tryz.isAgg23 rfl rfl) rfl rfl (gj_yes rfl rfl rfl (y_move rfl) rfl rfl (gj_yes rfl rfl rfl (y_ixR (reads_sl) Tryz.underlying23 Tryz.sizeOf3 rfl rfl (⟨by omega, by omega⟩)) rfl rfl (gj_yes rfl rfl rfl (y_ld0 (reads_sl) Tryz.isAgg3 rfl (ht1) rfl) rfl rfl (gj_yes rfl rfl rfl (y_lss rfl rfl) rfl rfl (gj_nil rfl))))))) ?_
      refine gj_step (y_or rfl rfl rfl) rfl rfl rfl (?_)
      refine gj_nil ?_
      refine ej_th ?_
      refine cj_cond rfl (fun h71 => ?_) (fun h71 => ?_)
      · exfalso
        have hb1 : btw 0 i ((ms.length : Int) - 1) = true := btw_mk (by omega)
        rw [hb1] at h71
        simp at h71
        omega
      · have h71b := h71
        try simp only [sxb] at h71
        refine cj_skip (ej_th (cj_seq ?_))
        refine cj_regionG (gj_step (y_fa0 fa42_0 rfl) rfl rfl rfl (gj_step (y_load1 Tryz.isAgg39 rfl rfl) rfl rfl rfl (gj_step (y_move rfl) rfl rfl rfl (gj_step (y_ixR (reads_sl) Tryz.underlying39 Tryz.sizeOf91 rfl rfl (⟨by omega, by omega⟩)) rfl rfl rfl (gj_step (y_faE fa91_0 rfl) rfl rfl rfl (gj_step (y_ld1 (reads_sl) Tryz.isAgg3 rfl (hm1) rfl) rfl rfl rfl (gj_step (y_assign rfl) rfl rfl rfl (gj_nil ?_))))))))
        refine ej_th (cj_seq ?_)
        refine cj_draw (by kernel_rfl) (by kernel_rfl) ?_
        refine gj_step (y_fa fa42_1 rfl) rfl rfl rfl (gj_step (y_load1 Tryz.isAgg23 rfl rfl) rfl rfl rfl (gj_step (y_move rfl) rfl rfl rfl (gj_step (y_ixR (reads_sl) Tryz.underlying23 Tryz.sizeOf3 rfl rfl (⟨by omega, by omega⟩)) rfl rfl rfl (gj_step (y_ld0 (reads_sl) Tryz.isAgg3 rfl (ht1) rfl) rfl rfl rfl (gj_step (y_move rfl) rfl rfl rfl (gj_step (y_move rfl) rfl rfl rfl (gj_step (y_move rfl) rfl rfl rfl (gj_step (y_add rfl rfl (by omega)) rfl rfl rfl (gj_step (y_add rfl rfl (by omega)) rfl rfl rfl (?_))))))))))
        refine gj_step (y_call Tryz.call15 rfl (fun w hp => k_Pick bits Ab cb _ w hp.rd hb8)) rfl rfl rfl ?_
        refine gj_step (y_move rfl) rfl rfl rfl (gj_step (y_mul rfl rfl (by omega)) rfl rfl rfl (gj_step (y_add rfl rfl (by omega)) rfl rfl rfl (?_)))
        refine gj_step (y_call Tryz.call9 rfl (fun w hp => k_Ring _ _ w (by omega))) rfl rfl rfl ?_
        refine gj_step (y_add rfl rfl (by omega)) rfl rfl rfl (gj_step (y_move rfl) rfl rfl rfl (gj_step (y_sub rfl rfl (by omega)) rfl rfl rfl (gj_step (y_assign rfl) rfl rfl rfl (?_))))
        refine gj_nil ?_
        refine ej_th ?_
        refine cj_cuti (X := Int) [(16, _), (1, _), (3, _), (4, _), (5, _), (6, _), (8, _), (14, _), (17, _), (18, _)] ⟨rfl, rfl, rfl, rfl, rfl, rfl, rfl, rfl, rfl, rfl, trivial⟩ (fun z => z = if sw = true then s.lo + ringI (pickI bits ((k : Int) + (j : Nat) + 1)) (s.hi - s.lo + 1) else t + ringI (pickI bits ((k : Int) + (j : Nat) + 1)) (2 * m.tol + 1) - m.tol) (fun z => [(19, .int .i64 z)]) (fun z => [ow 3 1 enInt (some ⟨b23, 0, none⟩) ms.length (rd), ownB b8 (cellsB 52 [.slice f.A f.has.length f.c]), ownB b6 (cellsB 42 [.slice A ms.length c, .slice At tk.length ct, .slice Ax nf cx])]) (fun z => [sl (fun b => b < w.heap.size) 2 Pl.encMe A ms, sl (fun b => b < w.heap.size) 1 enInt At tk, sl (fun b => b < w.heap.size) 1 enInt As set, sl (fun b => b < w.heap.size) 2 Pl.encSp f.A f.has, sl (fun b => b < w.heap.size) 1 enInt Ab bits]) ?_ ?_
        · refine cj_seq ?_
          refine cj_regionG (gj_step (y_move rfl) rfl rfl rfl (gj_nil ?_))
          refine ej_th ?_
          refine cj_cond rfl (fun h96 => ?_) (fun h96 => ?_)
          · have h96b := h96
            try simp only [sxb] at h96
            refine cj_draw (by kernel_rfl) (by kernel_rfl) ?_
            refine gj_step (y_fa0 fa52_0 rfl) rfl rfl rfl (gj_step (y_load1 Tryz.isAgg50 rfl rfl) rfl rfl rfl (gj_step (y_move rfl) rfl rfl rfl (gj_step (y_ixR (reads_sl) Tryz.underlying50 Tryz.sizeOf105 rfl rfl (⟨by omega, by omega⟩)) rfl rfl rfl (gj_step (y_faE fa105_0 rfl) rfl rfl rfl (gj_step (y_ld1 (reads_sl) Tryz.isAgg3 rfl (hs1) rfl) rfl rfl rfl (gj_step (y_move rfl) rfl rfl rfl (gj_step (y_move rfl) rfl rfl rfl (gj_step (y_move rfl) rfl rfl rfl (gj_step (y_add rfl rfl (by omega)) rfl rfl rfl (gj_step (y_add rfl rfl (by omega)) rfl rfl rfl (?_)))))))))))
            refine gj_step (y_call Tryz.call15 rfl (fun w hp => k_Pick bits Ab cb _ w hp.rd hb8)) rfl rfl rfl ?_
            refine gj_step (y_fa0 fa52_0 rfl) rfl rfl rfl (gj_step (y_load1 Tryz.isAgg50 rfl rfl) rfl rfl rfl (gj_step (y_move rfl) rfl rfl rfl (gj_step (y_ixR (reads_sl) Tryz.underlying50 Tryz.sizeOf105 rfl rfl (⟨by omega, by omega⟩)) rfl rfl rfl (gj_step (y_faE fa105_1 rfl) rfl rfl rfl (gj_step (y_ld1 (reads_sl) Tryz.isAgg3 rfl (hs1) rfl) rfl rfl rfl (gj_step (y_fa0 fa52_0 rfl) rfl rfl rfl (gj_step (y_load1 Tryz.isAgg50 rfl rfl) rfl rfl rfl (gj_step (y_move rfl) rfl rfl rfl (gj_step (y_ixR (reads_sl) Tryz.underlying50 Tryz.sizeOf105 rfl rfl (⟨by omega, by omega⟩)) rfl rfl rfl (gj_step (y_faE fa105_0 rfl) rfl rfl rfl (gj_step (y_ld1 (reads_sl) Tryz.isAgg3 rfl (hs1) rfl) rfl rfl rfl (gj_step (y_sub rfl rfl (by omega)) rfl rfl rfl (gj_step (y_add rfl rfl (by omega)) rfl rfl rfl (?_))))))))))))))
            refine gj_step (y_call Tryz.call9 rfl (fun w hp => k_Ring _ _ w (by omega))) rfl rfl rfl ?_
            refine gj_step (y_add rfl rfl (by omega)) rfl rfl rfl (gj_step (y_assign rfl) rfl rfl rfl (?_))
            refine gj_nil ?_
            exact ej_ct _ (if_pos h96b).symm ⟨rfl, rfl, rfl, rfl, rfl, rfl, rfl, rfl, rfl, rfl, rfl, trivial⟩
          · have h96b := h96
            try simp only [sxb] at h96
            refine cj_skip ?_
            exact ej_ct _ (if_neg (by rw [h96b]; simp)).symm ⟨rfl, rfl, rfl, rfl, rfl, rfl, rfl, rfl, rfl, rfl, rfl, trivial⟩
        · rintro z hz
          dsimp only [List.cons_append, List.nil_append]
          have hzb : -1000 ≤ z ∧ z ≤ 101000 := by rw [hz]; split <;> omega
          have hone : OneP m t s sw true (min 100000 (max 0 (z + ringI (pickI bits (2 * (k : Int) + (j : Nat) + 3)) (2 * m.tol + 1) - m.tol))) := by
            cases sw with
            | true => rw [hz, if_pos rfl]; exact one_sw hst hmt _ _
            | false => rw [hz, if_neg (by simp)]; exact one_no hmt ⟨hit, htt⟩ _ _
          refine cj_region ?_
          refine oj_step (y_move rfl) rfl rfl rfl ?_
          refine oj_step (y_move rfl) rfl rfl rfl ?_
          refine oj_step (y_move rfl) rfl rfl rfl ?_
          refine oj_step (y_move rfl) rfl rfl rfl ?_
          refine oj_step (y_move rfl) rfl rfl rfl ?_
          refine oj_step (y_mul rfl rfl (by omega)) rfl rfl rfl ?_
          refine oj_step (y_move rfl) rfl rfl rfl ?_
          refine oj_step (y_add rfl rfl (by omega)) rfl rfl rfl ?_
          refine oj_step (y_add rfl rfl (by omega)) rfl rfl rfl ?_
          refine oj_step (y_call Tryz.call15 rfl (fun w hp => k_Pick bits Ab cb _ w hp.rd hb8)) rfl rfl rfl ?_
          refine oj_step (y_move rfl) rfl rfl rfl ?_
          refine oj_step (y_mul rfl rfl (by omega)) rfl rfl rfl ?_
          refine oj_step (y_add rfl rfl (by omega)) rfl rfl rfl ?_
          refine oj_step (y_call Tryz.call9 rfl (fun w hp => k_Ring _ _ w (by omega))) rfl rfl rfl ?_
          refine oj_step (y_add rfl rfl (by omega)) rfl rfl rfl ?_
          refine oj_step (y_move rfl) rfl rfl rfl ?_
          refine oj_step (y_sub rfl rfl (by omega)) rfl rfl rfl ?_
          refine oj_step (y_max rfl rfl) rfl rfl rfl ?_
          refine oj_step (y_min rfl rfl) rfl rfl rfl ?_
          refine oj_step (y_ixRm (m := ms.length) (xs := rd) hme.1.symm (reads_ow enInt_len) Tryz.underlying23 Tryz.sizeOf3 rfl rfl ⟨by omega, by omega⟩) rfl rfl rfl ?_
          refine oj_storeE (i := i.toNat) (u := min 100000 (max 0 (z + ringI (pickI bits (2 * (k : Int) + (j : Nat) + 3)) (2 * m.tol + 1) - m.tol))) rfl rfl rfl rfl Tryz.sizeOf3 (fun _ => rfl) (by rw [hme.1]; omega) ?_
          refine oj_nil ?_
          refine ej_blk (ej_th ?_)
          refine cj_regionG (gj_step (y_move rfl) rfl rfl rfl (gj_step (y_add rfl rfl (by omega)) rfl rfl rfl (gj_step (y_assign rfl) rfl rfl rfl (gj_nil ?_))))
          have hst2 := measP_step hme hir (v := min 100000 (max 0 (z + ringI (pickI bits (2 * (k : Int) + (j : Nat) + 3)) (2 * m.tol + 1) - m.tol))) (by rw [gd_of default hm1, gd_of (0 : Int) ht1, gd_of default hs1]; exact hone)
          rw [show set.take j ++ [i] = set.take (j + 1) by rw [List.take_add_one, hx]; rfl] at hst2
          exact ej_nx (j + 1, rd.set i.toNat (min 100000 (max 0 (z + ringI (pickI bits (2 * (k : Int) + (j : Nat) + 3)) (2 * m.tol + 1) - m.tol)))) (by first | omega | (simp only; omega)) ⟨by first | omega | (simp only; omega), hst2⟩ ⟨rfl, rfl, rfl, rfl, rfl, rfl, rfl, rfl, trivial⟩
    · have h36b := h36
      try simp only [sxb] at h36
      have hje : j = set.length := by omega
      subst hje
      rw [List.take_length] at hme
      refine cj_exit (ej_then_exit (ej_then_exit (ej_blk_hit (ej_th (cj_seq ?_)))))
      refine cj_regionG (gj_step (y_move rfl) rfl rfl rfl (gj_step (y_assign rfl) rfl rfl rfl (gj_step (y_assign rfl) rfl rfl rfl (gj_nil ?_))))
      refine ej_th (cj_ret ?_)
      rw [← hme.1]
      exact ej_ret2 rfl Tryz.results17 rfl rfl (fun w' hp => ⟨_, _, rd, rfl, hp.below, hp.res enInt_len (by unfold maxLen; rw [hme.1]; omega), hme⟩)

end Go.Proofs.YtppfniekcgnmjaaGreat.To
namespace Go.Proofs.YtppfniekcgnmjaaGreat.Ce
open Go Go.Sx Go.RowKit
theorem eq_drop {α : Type} [DecidableEq α] (a b : List α) (k : Nat) (x y : α) (hx : a[k]? = some x) (hy : b[k]? = some y) : decide (a.drop k = b.drop k) = (decide (x = y) && decide (a.drop (k + 1) = b.drop (k + 1))) := by
  obtain ⟨h1, h2⟩ := List.getElem?_eq_some_iff.1 hx
  obtain ⟨h3, h4⟩ := List.getElem?_eq_some_iff.1 hy
  rw [List.drop_eq_getElem_cons h1, h2, List.drop_eq_getElem_cons h3, h4]
  by_cases h : x = y <;> by_cases h5 : a.drop (k + 1) = b.drop (k + 1) <;> simp [h, h5]
theorem eq_len {α : Type} [DecidableEq α] {a b : List α} (h : ¬ (a.length : Int) = b.length) : decide (a = b) = false := decide_eq_false (fun e => h (by rw [e]))
theorem len_of {a b : List Int} (h : ((a.length : Int) == (b.length : Int)) = true) : a.length = b.length := by
  have h2 : (a.length : Int) = b.length := by simpa using h
  omega
theorem same_start (a b : List Int) : (((a.length : Int) == (b.length : Int)) && decide (a.drop 0 = b.drop 0)) = decide (a = b) := by
  rw [List.drop_zero, List.drop_zero]
  by_cases h : (a.length : Int) = b.length
  · rw [show ((a.length : Int) == (b.length : Int)) = true by simpa using h]; rfl
  · rw [show ((a.length : Int) == (b.length : Int)) = false by simpa using h, eq_len h]; rfl
theorem beq_dec {x y : Int} {c : Bool} : ((x == y) && c) = (decide (x = y) && c) := by
  by_cases h : x = y <;> simp [h]
def ringI (n m : Int) : Int := if m ≤ 0 then 0 else ((n.tmod m) + m).tmod m
theorem ringI_bd (n m : Int) (hm : 1 ≤ m) : 0 ≤ ringI n m ∧ ringI n m < m := by
  unfold ringI
  rw [if_neg (by omega)]
  have h1 : -m < n.tmod m ∧ n.tmod m < m := by
    rcases Int.lt_or_le n 0 with h | h
    · have h2 := Int.tmod_lt_of_pos (-n) (show (0 : Int) < m by omega)
      have h3 := Int.tmod_nonneg m (show 0 ≤ -n by omega)
      rw [Int.neg_tmod] at h2 h3
      omega
    · have h2 := Int.tmod_lt_of_pos n (show (0 : Int) < m by omega)
      have h3 := Int.tmod_nonneg m h
      omega
  exact ⟨Int.tmod_nonneg m (by omega), Int.tmod_lt_of_pos _ (by omega)⟩
def pickI (l : List Int) (i : Int) : Int := if l.length = 0 then 0 else l.getD (ringI i l.length).toNat default
theorem gd_of {α : Type} {l : List α} {i : Nat} {x : α} (d : α) (h : l[i]? = some x) : l.getD i d = x := by rw [List.getD_eq_getElem?_getD, h]; rfl
end Go.Proofs.YtppfniekcgnmjaaGreat.Ce
namespace Go.Proofs.YtppfniekcgnmjaaGreat.Ce
open Go.Sx Go.RowKit
set_option maxRecDepth 20000

end Go.Proofs.YtppfniekcgnmjaaGreat.Ce
namespace Go.Proofs.YtppfniekcgnmjaaGreat.Ce
open Go.Sx Go.RowKit Um
set_option maxRecDepth 20000
theorem k_within (n lo hi : Int) (w : World)  : Calls Tryz.prog 71 #[.int .i64 n, .int .i64 lo, .int .i64 hi] w (fun e w' => e = .returned (.bool (btw lo n hi)) ∧ Grow w w') := by
  refine enter_pure (args := [.int .i64 n, .int .i64 lo, .int .i64 hi]) [] Tryz.func71 rfl (by rw [Tryz.ntmps71]; simp) (by simp) ?_
  refine cj_seq ?_
  refine cj_regionG (gj_step (y_assign rfl) rfl rfl rfl (gj_nil ?_))
  refine ej_th (cj_seq ?_)
  refine cj_regionG (gj_step (y_move rfl) rfl rfl rfl (gj_step (y_move rfl) rfl rfl rfl (gj_step (y_geq rfl rfl) rfl rfl rfl (gj_step (y_move rfl) rfl rfl rfl (gj_g 3 10 13 rfl rfl rfl rfl (fun hg10 => gj_yes rfl rfl rfl (y_move rfl) rfl rfl (gj_yes rfl rfl rfl (y_move rfl) rfl rfl (gj_yes rfl rfl rfl (y_leq rfl rfl) rfl rfl (gj_nil rfl)))) (gj_step (y_and rfl rfl rfl) rfl rfl rfl (gj_step (y_assign rfl) rfl rfl rfl (gj_nil ?_))))))))
  refine ej_th (cj_ret ?_)
  exact ej_ret1 rfl Tryz.results71 rfl (fun w' hp => ⟨rfl, hp.below⟩)

theorem k_ways  (w : World)  : Calls Tryz.prog 75 #[] w (fun e w' => e = .returned (.agg (ivs chL).toArray) ∧ Grow w w') := by
  refine enter_pure (args := []) [] Tryz.func75 rfl (by rw [Tryz.ntmps75]; simp) (by simp) ?_
  refine cj_seq (cj_region ?_)
  refine oj_alloc Tryz.zeroValue97 rfl rfl (fun b0 => ?_)
  refine oj_nil ?_
  refine ej_th (cj_seq (cj_seq ?_))
  refine cj_eqO [ownB b0 (cellsB 97 (ivs (wl 0)))] (by kernel_rfl) ?_
  refine cj_regionG (gj_step (y_move rfl) rfl rfl rfl (gj_nil ?_))
  refine ej_th (cj_block ?_)
  refine cj_lpi (X := Nat) [(0, _)] (fun n => n ≤ 9) (fun n => [(3, .int .i64 (n : Nat))]) (fun n => [ownB b0 (cellsB 97 (ivs (wl n)))]) (fun n => []) (fun n => 9 - n) 0 (Nat.zero_le _) ⟨rfl, rfl, trivial⟩ ?_
  rintro n hn
  dsimp only [List.cons_append, List.nil_append]
  refine cj_seq ?_
  refine cj_regionG (gj_step (y_lss rfl rfl) rfl rfl rfl (gj_nil ?_))
  refine ej_th (cj_seq ?_)
  refine cj_cond rfl (fun h4 => ?_) (fun h4 => ?_)
  · have h4b := h4
    try simp only [sxb] at h4
    refine cj_skip (ej_th (cj_seq (cj_block (cj_seq ?_))))
    refine cj_regionG (gj_step (y_move rfl) rfl rfl rfl (gj_step (y_assign rfl) rfl rfl rfl (gj_nil ?_)))
    refine ej_th (cj_seq (cj_region ?_))
    refine oj_step (y_move rfl) rfl rfl rfl ?_
    refine oj_step (y_ixArr Tryz.underlying97 Tryz.sizeOf95 rfl rfl (⟨by omega, by omega⟩)) rfl rfl rfl ?_
    refine oj_step (y_ixArr Tryz.underlying95 Tryz.sizeOf3 rfl rfl (⟨by omega, by omega⟩)) rfl rfl rfl ?_
    refine oj_storeK rfl rfl rfl rfl Tryz.sizeOf3 (by simp only [ivs, List.length_map, wl_len]; omega) ?_
    rw [wset0]
    refine oj_nil ?_
    refine ej_th (cj_seq ?_)
    refine cj_regionG (gj_step (y_assign rfl) rfl rfl rfl (gj_nil ?_))
    refine ej_th (cj_block ?_)
    refine cj_lpi (X := Nat) [(3, _), (0, _), (1, _)] (fun j => j ≤ n) (fun j => [(2, .int .i64 ((j + 1 : Nat)))]) (fun j => [ownB b0 (cellsB 97 (ivs (wrow (wl n) n j)))]) (fun j => []) (fun j => n - j) 0 (Nat.zero_le _) ⟨rfl, rfl, rfl, rfl, trivial⟩ ?_
    rintro j hj
    dsimp only [List.cons_append, List.nil_append]
    refine cj_seq (cj_seq ?_)
    refine cj_regionG (gj_step (y_move rfl) rfl rfl rfl (gj_step (y_move rfl) rfl rfl rfl (gj_step (y_leq rfl rfl) rfl rfl rfl (gj_nil ?_))))
    refine ej_th ?_
    refine cj_cond rfl (fun h11 => ?_) (fun h11 => ?_)
    · have h11b := h11
      try simp only [sxb] at h11
      refine cj_skip (ej_th (cj_seq (cj_block ?_)))
      refine cj_plan 19 (by kernel_rfl) (by kernel_rfl) ?_
      refine pl_y 0 rfl (y_move rfl) rfl rfl rfl rfl (by kernel_rfl) ?_
      refine pl_y 1 rfl (y_move rfl) rfl rfl rfl rfl (by kernel_rfl) ?_
      refine pl_y 2 rfl (y_move rfl) rfl rfl rfl rfl (by kernel_rfl) ?_
      refine pl_y 3 rfl (y_sub rfl rfl (by omega)) rfl rfl rfl rfl (by kernel_rfl) ?_
      refine pl_y 4 rfl (y_move rfl) rfl rfl rfl rfl (by kernel_rfl) ?_
      refine pl_y 5 rfl (y_sub rfl rfl (by omega)) rfl rfl rfl rfl (by kernel_rfl) ?_
      refine pl_y 6 rfl (y_ixArr Tryz.underlying97 Tryz.sizeOf95 rfl rfl (⟨by omega, by omega⟩)) rfl rfl rfl rfl (by kernel_rfl) ?_
      refine pl_y 7 rfl (y_ixArr Tryz.underlying95 Tryz.sizeOf3 rfl rfl (⟨by omega, by omega⟩)) rfl rfl rfl rfl (by kernel_rfl) ?_
      refine pl_y 8 rfl (y_load1 Tryz.isAgg3 rfl (wget ((n : Nat) - 1 : Int) (((j + 1 : Nat) : Int) - 1) (p := n - 1) (q := j) (by omega) (by omega) (by omega) (by omega))) rfl rfl rfl rfl (by kernel_rfl) ?_
      refine pl_y 9 rfl (y_move rfl) rfl rfl rfl rfl (by kernel_rfl) ?_
      refine pl_y 10 rfl (y_sub rfl rfl (by omega)) rfl rfl rfl rfl (by kernel_rfl) ?_
      refine pl_y 11 rfl (y_move rfl) rfl rfl rfl rfl (by kernel_rfl) ?_
      refine pl_y 12 rfl (y_ixArr Tryz.underlying97 Tryz.sizeOf95 rfl rfl (⟨by omega, by omega⟩)) rfl rfl rfl rfl (by kernel_rfl) ?_
      refine pl_y 13 rfl (y_ixArr Tryz.underlying95 Tryz.sizeOf3 rfl rfl (⟨by omega, by omega⟩)) rfl rfl rfl rfl (by kernel_rfl) ?_
      refine pl_y 14 rfl (y_load1 Tryz.isAgg3 rfl (wget ((n : Nat) - 1 : Int) ((j + 1 : Nat) : Int) (p := n - 1) (q := j + 1) (by omega) (by omega) (by omega) (by omega))) rfl rfl rfl rfl (by kernel_rfl) ?_
      refine pl_y 15 rfl (y_add rfl rfl (by have h1 := wrow_bd (n := n) (j := j) (by omega) (by omega) ((n - 1) * 9 + j); have h2 := wrow_bd (n := n) (j := j) (by omega) (by omega) ((n - 1) * 9 + (j + 1)); omega)) rfl rfl rfl rfl (by kernel_rfl) ?_
      refine pl_y 16 rfl (y_ixArr Tryz.underlying97 Tryz.sizeOf95 rfl rfl (⟨by omega, by omega⟩)) rfl rfl rfl rfl (by kernel_rfl) ?_
      refine pl_y 17 rfl (y_ixArr Tryz.underlying95 Tryz.sizeOf3 rfl rfl (⟨by omega, by omega⟩)) rfl rfl rfl rfl (by kernel_rfl) ?_
      refine pl_w1 18 (by kernel_rfl) rfl rfl (pl_fire rfl rfl rfl (by kernel_rfl) ?_)
      refine oj_storeK rfl rfl rfl rfl Tryz.sizeOf3 (by simp only [ivs, List.length_map, wrow_len, wl_len]; omega) ?_
      rw [wset1]
      refine oj_nil ?_
      refine ej_pl (lt_w (by kernel_rfl) (lt_y (y_ixArr Tryz.underlying97 Tryz.sizeOf95 rfl rfl (⟨by omega, by omega⟩)) rfl (lt_w (by kernel_rfl) (lt_w (by kernel_rfl) (lt_w (by kernel_rfl) (lt_w (by kernel_rfl) (lt_w (by kernel_rfl) (lt_w (by kernel_rfl) (lt_w (by kernel_rfl) (lt_w (by kernel_rfl) (lt_w (by kernel_rfl) (lt_w (by kernel_rfl) (lt_w (by kernel_rfl) (lt_w (by kernel_rfl) (lt_w (by kernel_rfl) (lt_w (by kernel_rfl) (lt_w (by kernel_rfl) (lt_w (by kernel_rfl) (lt_nil))))))))))))))))))) ?_
      refine pl_end (by kernel_rfl) ?_
      refine ej_blk (ej_th ?_)
      refine cj_regionG (gj_step (y_move rfl) rfl rfl rfl (gj_step (y_add rfl rfl (by omega)) rfl rfl rfl (gj_step (y_assign rfl) rfl rfl rfl (gj_nil ?_))))
      rw [show ((j + 1 : Nat) : Int) + 1 = ((j + 1 + 1 : Nat) : Int) by omega]
      exact ej_nx (j + 1) (by omega) (by omega) ⟨rfl, rfl, rfl, rfl, trivial⟩
    · have h11b := h11
      try simp only [sxb] at h11
      refine cj_exit (ej_then_exit (ej_then_exit (ej_blk_hit (ej_blk (ej_th ?_)))))
      refine cj_regionG (gj_step (y_add rfl rfl (by omega)) rfl rfl rfl (gj_step (y_move rfl) rfl rfl rfl (gj_nil ?_)))
      have hjn : j = n := by omega
      subst hjn
      rw [show wrow (wl j) j j = wl (j + 1) from rfl]
      exact ej_nx (j + 1) (by omega) (by omega) ⟨rfl, rfl, trivial⟩
  · have h4b := h4
    try simp only [sxb] at h4
    refine cj_exit (ej_then_exit (ej_then_exit (ej_blk_hit (ej_th (cj_seq ?_)))))
    have hn9 : n = 9 := by omega
    subst hn9
    haveI hT : Tk 81 0 (ivs (wl 9)) (ivs chL) := tk_all _ (by simp only [ivs, List.length_map, wl_len])
    haveI hU : Tk 81 0 (ivs chL) (ivs chL) := hT
    haveI hS : SetC 0 (ivs chL) (ivs (wl 9)) (ivs chL) := setc_all _ _ rfl
    refine cj_region ?_
    refine oj_step (y_loadN Tryz.isAgg97 Tryz.sizeOf97 rfl) rfl rfl rfl ?_
    refine oj_store rfl rfl rfl rfl Tryz.sizeOf97 rfl ?_
    refine oj_nil ?_
    refine ej_th (cj_ret ?_)
    exact ej_retC1 rfl Tryz.results75 rfl (y_loadN Tryz.isAgg97 Tryz.sizeOf97 rfl) (fun w' hp => ⟨rfl, hp.below⟩)

end Go.Proofs.YtppfniekcgnmjaaGreat.Ce
namespace Go.Proofs.YtppfniekcgnmjaaGreat.Ce
open Go.Sx Go.RowKit
set_option maxRecDepth 20000
theorem fa49_0 : FieldIs Tryz.prog 49 0 0 1 false := ⟨⟨_, _, Tryz.underlying49, rfl, rfl, Tryz.sizeOf23, Tryz.isAgg23, by decide⟩⟩
theorem fa49_1 : FieldIs Tryz.prog 49 1 1 1 false := ⟨⟨_, _, Tryz.underlying49, rfl, rfl, Tryz.sizeOf23, Tryz.isAgg23, by decide⟩⟩
theorem fa49_2 : FieldIs Tryz.prog 49 2 2 1 false := ⟨⟨_, _, Tryz.underlying49, rfl, rfl, Tryz.sizeOf3, Tryz.isAgg3, by decide⟩⟩
theorem fa49_3 : FieldIs Tryz.prog 49 3 3 1 false := ⟨⟨_, _, Tryz.underlying49, rfl, rfl, Tryz.sizeOf3, Tryz.isAgg3, by decide⟩⟩
theorem fa99_0 : FieldIs Tryz.prog 99 0 0 4 true := ⟨⟨_, _, Tryz.underlying99, rfl, rfl, Tryz.sizeOf49, Tryz.isAgg49, by decide⟩⟩
theorem st99 : StructIs Tryz.prog 99 [(0, 4), (4, 81)] [.slice none 0 0, .slice none 0 0, .int .i64 0, .int .i64 0, .int .i64 0, .int .i64 0, .int .i64 0, .int .i64 0, .int .i64 0, .int .i64 0, .int .i64 0, .int .i64 0, .int .i64 0, .int .i64 0, .int .i64 0, .int .i64 0, .int .i64 0, .int .i64 0, .int .i64 0, .int .i64 0, .int .i64 0, .int .i64 0, .int .i64 0, .int .i64 0, .int .i64 0, .int .i64 0, .int .i64 0, .int .i64 0, .int .i64 0, .int .i64 0, .int .i64 0, .int .i64 0, .int .i64 0, .int .i64 0, .int .i64 0, .int .i64 0, .int .i64 0, .int .i64 0, .int .i64 0, .int .i64 0, .int .i64 0, .int .i64 0, .int .i64 0, .int .i64 0, .int .i64 0, .int .i64 0, .int .i64 0, .int .i64 0, .int .i64 0, .int .i64 0, .int .i64 0, .int .i64 0, .int .i64 0, .int .i64 0, .int .i64 0, .int .i64 0, .int .i64 0, .int .i64 0, .int .i64 0, .int .i64 0, .int .i64 0, .int .i64 0, .int .i64 0, .int .i64 0, .int .i64 0, .int .i64 0, .int .i64 0, .int .i64 0, .int .i64 0, .int .i64 0, .int .i64 0, .int .i64 0, .int .i64 0, .int .i64 0, .int .i64 0, .int .i64 0, .int .i64 0, .int .i64 0, .int .i64 0, .int .i64 0, .int .i64 0, .int .i64 0, .int .i64 0, .int .i64 0, .int .i64 0] := ⟨⟨_, Tryz.underlying99, fun w => by simp [Tryz.sizeOf49, Tryz.sizeOf97], Tryz.zeroValue99⟩⟩
end Go.Proofs.YtppfniekcgnmjaaGreat.Ce
namespace Go.Proofs.YtppfniekcgnmjaaGreat.Ce
open Go.Sx Go.RowKit Um
set_option maxRecDepth 20000
abbrev z85 : List Value := [.slice none 0 0, .slice none 0 0, .int .i64 0, .int .i64 0, .int .i64 0, .int .i64 0, .int .i64 0, .int .i64 0, .int .i64 0, .int .i64 0, .int .i64 0, .int .i64 0, .int .i64 0, .int .i64 0, .int .i64 0, .int .i64 0, .int .i64 0, .int .i64 0, .int .i64 0, .int .i64 0, .int .i64 0, .int .i64 0, .int .i64 0, .int .i64 0, .int .i64 0, .int .i64 0, .int .i64 0, .int .i64 0, .int .i64 0, .int .i64 0, .int .i64 0, .int .i64 0, .int .i64 0, .int .i64 0, .int .i64 0, .int .i64 0, .int .i64 0, .int .i64 0, .int .i64 0, .int .i64 0, .int .i64 0, .int .i64 0, .int .i64 0, .int .i64 0, .int .i64 0, .int .i64 0, .int .i64 0, .int .i64 0, .int .i64 0, .int .i64 0, .int .i64 0, .int .i64 0, .int .i64 0, .int .i64 0, .int .i64 0, .int .i64 0, .int .i64 0, .int .i64 0, .int .i64 0, .int .i64 0, .int .i64 0, .int .i64 0, .int .i64 0, .int .i64 0, .int .i64 0, .int .i64 0, .int .i64 0, .int .i64 0, .int .i64 0, .int .i64 0, .int .i64 0, .int .i64 0, .int .i64 0, .int .i64 0, .int .i64 0, .int .i64 0, .int .i64 0, .int .i64 0, .int .i64 0, .int .i64 0, .int .i64 0, .int .i64 0, .int .i64 0, .int .i64 0, .int .i64 0]

theorem k_ck1 (n : Int) (w : World)  : Calls Tryz.prog 100 #[.int .i64 n] w (fun e w' => e = .returned (.bool (!(btw 0 n 1000))) ∧ Grow w w') := by
  refine enter_pure (args := [.int .i64 n]) [] Tryz.func100 rfl (by rw [Tryz.ntmps100]; simp) (by simp) ?_
  refine cj_seq ?_
  refine cj_regionG (gj_step (y_assign rfl) rfl rfl rfl (gj_nil ?_))
  refine ej_th (cj_seq ?_)
  refine cj_regionG ?_
  refine gj_step (y_move rfl) rfl rfl rfl (?_)
  refine gj_step (y_call Tryz.call71 rfl (fun w hp => k_within _ _ _ w)) rfl rfl rfl ?_
  refine gj_step (y_not rfl) rfl rfl rfl (gj_step (y_assign rfl) rfl rfl rfl (?_))
  refine gj_nil ?_
  refine ej_th (cj_ret ?_)
  exact ej_ret1 rfl Tryz.results100 rfl (fun w' hp => ⟨rfl, hp.below⟩)

theorem k_Check (st co lo : Int) (As Ac : Option Addr) (cs cc : Nat) (w : World) (hs : Rd w 1 enInt As ([st] : List Int)) (hc : Rd w 1 enInt Ac ([co] : List Int)) (hst : 1 ≤ st ∧ st ≤ 8) (hco : 0 ≤ co ∧ co ≤ 1000) (hlo : 1 ≤ lo ∧ lo ≤ st) : Calls Tryz.prog 74 #[.agg #[.slice As ([st] : List Int).length cs, .slice Ac ([co] : List Int).length cc, .int .i64 lo, .int .i64 0]] w (fun e w' => e = .returned (.int .i64 0) ∧ Grow w w') := by
  refine enter_pure (args := [.agg #[.slice As ([st] : List Int).length cs, .slice Ac ([co] : List Int).length cc, .int .i64 lo, .int .i64 0]]) [sl (fun b => b < w.heap.size) 1 enInt As ([st] : List Int), sl (fun b => b < w.heap.size) 1 enInt Ac ([co] : List Int)] Tryz.func74 rfl (by rw [Tryz.ntmps74]; simp) (fun g hg => by simp at hg; rcases hg with rfl | rfl; exact ⟨hs, fun _ h => h⟩; exact ⟨hc, fun _ h => h⟩) ?_
  refine cj_seq (cj_region ?_)
  refine oj_box rfl rfl rfl (fun b1 => ?_)
  refine oj_step (y_assign rfl) rfl rfl rfl ?_
  refine oj_nil ?_
  refine ej_th (cj_seq ?_)
  refine cj_regionG (gj_step (y_assign rfl) rfl rfl rfl (gj_nil ?_))
  refine ej_th (cj_seq (cj_seq ?_))
  refine cj_regionG (gj_step (y_fa0 fa49_0 rfl) rfl rfl rfl (gj_step (y_load1 Tryz.isAgg23 rfl rfl) rfl rfl rfl (gj_step (y_lenA Tryz.underlying23 rfl) rfl rfl rfl (gj_step (y_move rfl) rfl rfl rfl (gj_nil ?_)))))
  refine ej_th (cj_block ?_)
  refine cj_lpic (X := Nat × Int) [(1, _), (8, _), (9, _)] (fun ⟨k, sm⟩ => (k = 0 ∧ sm = 0) ∨ (k = 1 ∧ sm = st)) (fun ⟨k, sm⟩ => [(10, .int .i64 (k : Nat)), (3, .int .i64 sm)]) (fun ⟨k, sm⟩ => 1 - k) (0, 0) (.inl ⟨rfl, rfl⟩) ⟨rfl, rfl, rfl, rfl, rfl, trivial⟩ ?_
  rintro ⟨k, sm⟩ hsm
  dsimp only [List.cons_append, List.nil_append]
  refine cj_seq ?_
  refine cj_regionG (gj_step (y_lss rfl rfl) rfl rfl rfl (gj_nil ?_))
  refine ej_th (cj_seq ?_)
  refine cj_cond rfl (fun h11 => ?_) (fun h11 => ?_)
  · have h11b := h11
    try simp only [sxb] at h11
    obtain ⟨x, hx⟩ : ∃ x, ([st] : List Int)[k]? = some x := ⟨_, List.getElem?_eq_getElem (by omega)⟩
    obtain ⟨hk0, hxe⟩ : k = 0 ∧ x = st := by
      have h9 := (List.getElem?_eq_some_iff.1 hx).1
      simp only [List.length_cons, List.length_nil] at h9
      have h8 : k = 0 := by omega
      subst h8
      simp only [List.getElem?_cons_zero, Option.some.injEq] at hx
      exact ⟨rfl, hx.symm⟩
    subst hk0
    subst hxe
    refine cj_skip (ej_th (cj_seq (cj_block (cj_seq ?_))))
    refine cj_regionG (gj_step (y_ixR (reads_sl) Tryz.underlying23 Tryz.sizeOf3 rfl rfl (⟨by omega, by omega⟩)) rfl rfl rfl (gj_step (y_ld0 (reads_sl) Tryz.isAgg3 rfl (hx) rfl) rfl rfl rfl (gj_step (y_assign rfl) rfl rfl rfl (gj_nil ?_))))
    refine ej_th (cj_seq (cj_seq ?_))
    refine cj_regionG ?_
    refine gj_step (y_move rfl) rfl rfl rfl (?_)
    refine gj_step (y_call Tryz.call71 rfl (fun w hp => k_within _ _ _ w)) rfl rfl rfl ?_
    refine gj_step (y_not rfl) rfl rfl rfl (?_)
    refine gj_nil ?_
    refine ej_th ?_
    refine cj_cond rfl (fun h16 => ?_) (fun h16 => ?_)
    · exfalso
      rw [btw_mk hst] at h16
      cases h16
    · have h16b := h16
      try simp only [sxb] at h16
      refine cj_skip (ej_th ?_)
      refine cj_regionG (gj_step (y_move rfl) rfl rfl rfl (gj_step (y_move rfl) rfl rfl rfl (gj_step (y_add rfl rfl (by omega)) rfl rfl rfl (gj_step (y_assign rfl) rfl rfl rfl (gj_nil ?_)))))
      refine ej_blk (ej_th ?_)
      refine cj_regionG (gj_step (y_add rfl rfl (by omega)) rfl rfl rfl (gj_step (y_move rfl) rfl rfl rfl (gj_nil ?_)))
      have hsm0 : sm = 0 := by simp only [List.length_cons, List.length_nil] at *; omega
      subst hsm0
      exact ej_nx (1, 0 + x) (by simp only; omega) (.inr ⟨rfl, by omega⟩) ⟨rfl, rfl, rfl, rfl, rfl, trivial⟩
  · have h11b := h11
    try simp only [sxb] at h11
    refine cj_exit (ej_then_exit (ej_then_exit (ej_blk_hit (ej_th (cj_seq ?_)))))
    have hsm2 : sm = st := by
      rcases hsm with ⟨h1, h2⟩ | ⟨h1, h2⟩
      · simp only [List.length_cons, List.length_nil] at *
        omega
      · exact h2
    subst hsm2
    refine cj_regionG ?_
    refine gj_step (y_fa fa49_1 rfl) rfl rfl rfl (gj_step (y_load1 Tryz.isAgg23 rfl rfl) rfl rfl rfl (?_))
    refine gj_step (y_call Tryz.call76 rfl (fun w hp => Pu.k_ContI ([co] : List Int) Ac cc 100 #[] #[] (fun n => !(btw 0 n 1000)) w hp.rd Tryz.call100 (fun x hx w1 hg => k_ck1 x w1))) rfl rfl rfl ?_
    refine gj_step (y_assign rfl) rfl rfl rfl (?_)
    refine gj_nil ?_
    refine ej_th (cj_seq (cj_seq ?_))
    refine cj_regionG ?_
    refine gj_step (y_move rfl) rfl rfl rfl (gj_step (y_move rfl) rfl rfl rfl (?_))
    refine gj_g 5 25 30 rfl rfl rfl rfl (fun hg25 => gj_yes rfl rfl rfl (y_fa0 fa49_0 rfl) rfl rfl (gj_yes rfl rfl rfl (y_load1 Tryz.isAgg23 rfl rfl) rfl rfl (gj_yes rfl rfl rfl (y_lenA Tryz.underlying23 rfl) rfl rfl (gj_yes rfl rfl rfl (y_call Tryz.call71 rfl (fun w hp => k_within _ _ _ w)) rfl rfl (gj_yes rfl rfl rfl (y_not rfl) rfl rfl (gj_nil rfl)))))) ?_
    refine gj_step (y_or rfl rfl rfl) rfl rfl rfl (gj_step (y_move rfl) rfl rfl rfl (?_))
    refine gj_g 7 32 39 rfl rfl rfl rfl (fun hg32 => gj_yes rfl rfl rfl (y_fa fa49_1 rfl) rfl rfl (gj_yes rfl rfl rfl (y_load1 Tryz.isAgg23 rfl rfl) rfl rfl (gj_yes rfl rfl rfl (y_lenA Tryz.underlying23 rfl) rfl rfl (gj_yes rfl rfl rfl (y_fa0 fa49_0 rfl) rfl rfl (gj_yes rfl rfl rfl (y_load1 Tryz.isAgg23 rfl rfl) rfl rfl (gj_yes rfl rfl rfl (y_lenA Tryz.underlying23 rfl) rfl rfl (gj_yes rfl rfl rfl (y_neq rfl rfl) rfl rfl (gj_nil rfl)))))))) ?_
    refine gj_step (y_or rfl rfl rfl) rfl rfl rfl (gj_step (y_move rfl) rfl rfl rfl (?_))
    refine gj_g 5 41 46 rfl rfl rfl rfl (fun hg41 => gj_yes rfl rfl rfl (y_fa fa49_2 rfl) rfl rfl (gj_yes rfl rfl rfl (y_load1 Tryz.isAgg3 rfl rfl) rfl rfl (gj_yes rfl rfl rfl (y_move rfl) rfl rfl (gj_yes rfl rfl rfl (y_call Tryz.call71 rfl (fun w hp => k_within _ _ _ w)) rfl rfl (gj_yes rfl rfl rfl (y_not rfl) rfl rfl (gj_nil rfl)))))) ?_
    refine gj_step (y_or rfl rfl rfl) rfl rfl rfl (gj_step (y_move rfl) rfl rfl rfl (?_))
    refine gj_g 4 48 52 rfl rfl rfl rfl (fun hg48 => gj_yes rfl rfl rfl (y_fa fa49_3 rfl) rfl rfl (gj_yes rfl rfl rfl (y_load1 Tryz.isAgg3 rfl rfl) rfl rfl (gj_yes rfl rfl rfl (y_call Tryz.call71 rfl (fun w hp => k_within _ _ _ w)) rfl rfl (gj_yes rfl rfl rfl (y_not rfl) rfl rfl (gj_nil rfl))))) ?_
    refine gj_step (y_or rfl rfl rfl) rfl rfl rfl (?_)
    refine gj_nil ?_
    refine ej_th ?_
    refine cj_cond rfl (fun h53 => ?_) (fun h53 => ?_)
    · exfalso
      simp [btw_mk hco, btw_mk hlo, btw_mk (show (1 : Int) ≤ 1 ∧ (1 : Int) ≤ 4 by decide), btw_mk (show (0 : Int) ≤ 0 ∧ (0 : Int) ≤ 1000 by decide)] at h53
    · have h53b := h53
      try simp only [sxb] at h53
      refine cj_skip (ej_th (cj_seq ?_))
      refine cj_regionG (gj_step (y_assign rfl) rfl rfl rfl (gj_nil ?_))
      refine ej_th (cj_ret ?_)
      exact ej_ret1 rfl Tryz.results74 rfl (fun w' hp => ⟨rfl, hp.below⟩)

theorem k_lists (st co lo : Int) (As Ac : Option Addr) (cs cc : Nat) (x : Int) (Ax : Option Addr) (cx : Nat) (w : World) (hs : Rd w 1 enInt As ([st] : List Int)) (hx1 : Rd w 1 enInt Ax ([x] : List Int)) (hxb : 0 ≤ x ∧ x ≤ st) : Calls Tryz.prog 43 #[.agg (([.slice As ([st] : List Int).length cs, .slice Ac ([co] : List Int).length cc, .int .i64 lo, .int .i64 0] : List Value) ++ ivs chL).toArray, .slice Ax ([x] : List Int).length cx] w (fun e w' => e = .returned (.bool true) ∧ Grow w w') := by
  refine enter_pure (args := [.agg (([.slice As ([st] : List Int).length cs, .slice Ac ([co] : List Int).length cc, .int .i64 lo, .int .i64 0] : List Value) ++ ivs chL).toArray, .slice Ax ([x] : List Int).length cx]) [sl (fun b => b < w.heap.size) 1 enInt As ([st] : List Int), sl (fun b => b < w.heap.size) 1 enInt Ax ([x] : List Int)] Tryz.func43 rfl (by rw [Tryz.ntmps43]; simp) (fun g hg => by simp at hg; rcases hg with rfl | rfl; exact ⟨hs, fun _ h => h⟩; exact ⟨hx1, fun _ h => h⟩) ?_
  refine cj_seq (cj_region ?_)
  refine oj_box rfl rfl rfl (fun b2 => ?_)
  refine oj_step (y_assign rfl) rfl rfl rfl ?_
  refine oj_nil ?_
  refine ej_th (cj_seq (cj_seq ?_))
  refine cj_regionG (gj_step (y_assign rfl) rfl rfl rfl (gj_nil ?_))
  refine ej_th (cj_block ?_)
  refine cj_lpic (X := Nat) [(1, _), (2, _)] (fun k => k ≤ 1) (fun k => [(5, .int .i64 (k : Nat))]) (fun k => 1 - k) 0 (Nat.zero_le _) ⟨rfl, rfl, rfl, trivial⟩ ?_
  rintro k hk
  dsimp only [List.cons_append, List.nil_append]
  refine cj_seq (cj_seq ?_)
  refine cj_regionG (gj_step (y_move rfl) rfl rfl rfl (gj_step (y_move rfl) rfl rfl rfl (gj_step (y_lenA Tryz.underlying23 rfl) rfl rfl rfl (gj_step (y_lss rfl rfl) rfl rfl rfl (gj_step (y_move rfl) rfl rfl rfl (gj_g 7 10 17 rfl rfl rfl rfl (fun hg10 => gj_yes rfl rfl rfl (y_move rfl) rfl rfl (gj_yes rfl rfl rfl (y_lenA Tryz.underlying23 rfl) rfl rfl (gj_yes rfl rfl rfl (y_fa0 fa99_0 rfl) rfl rfl (gj_yes rfl rfl rfl (y_fa0 fa49_0 rfl) rfl rfl (gj_yes rfl rfl rfl (y_load1 Tryz.isAgg23 rfl rfl) rfl rfl (gj_yes rfl rfl rfl (y_lenA Tryz.underlying23 rfl) rfl rfl (gj_yes rfl rfl rfl (y_eql rfl rfl) rfl rfl (gj_nil rfl)))))))) (gj_step (y_and rfl rfl rfl) rfl rfl rfl (gj_nil ?_))))))))
  refine ej_th ?_
  refine cj_cond rfl (fun h18 => ?_) (fun h18 => ?_)
  · have h18b := h18
    try simp only [sxb] at h18
    have hk0 : k = 0 := by
      simp only [Bool.and_eq_true, decide_eq_true_eq, List.length_cons, List.length_nil] at h18b
      omega
    subst hk0
    have hy : ([x] : List Int)[((0 : Nat) : Int).toNat]? = some x := rfl
    have hz : ([st] : List Int)[((0 : Nat) : Int).toNat]? = some st := rfl
    refine cj_skip (ej_th (cj_seq (cj_block (cj_seq ?_))))
    refine cj_draw (by kernel_rfl) (by kernel_rfl) ?_
    refine gj_step (y_move rfl) rfl rfl rfl (gj_step (y_move rfl) rfl rfl rfl (gj_step (y_ixR (reads_sl) Tryz.underlying23 Tryz.sizeOf3 rfl rfl (⟨by omega, by omega⟩)) rfl rfl rfl (gj_step (y_ld0 (reads_sl) Tryz.isAgg3 rfl (hy) rfl) rfl rfl rfl (gj_step (y_fa0 fa99_0 rfl) rfl rfl rfl (gj_step (y_fa0 fa49_0 rfl) rfl rfl rfl (gj_step (y_load1 Tryz.isAgg23 rfl rfl) rfl rfl rfl (gj_step (y_move rfl) rfl rfl rfl (gj_step (y_ixR (reads_sl) Tryz.underlying23 Tryz.sizeOf3 rfl rfl (⟨by omega, by omega⟩)) rfl rfl rfl (gj_step (y_ld0 (reads_sl) Tryz.isAgg3 rfl (hz) rfl) rfl rfl rfl (?_))))))))))
    refine gj_step (y_call Tryz.call71 rfl (fun w hp => k_within _ _ _ w)) rfl rfl rfl ?_
    refine gj_step (y_not rfl) rfl rfl rfl (?_)
    refine gj_nil ?_
    refine ej_th ?_
    refine cj_cond rfl (fun h32 => ?_) (fun h32 => ?_)
    · exfalso
      rw [btw_mk hxb] at h32
      cases h32
    · have h32b := h32
      try simp only [sxb] at h32
      refine cj_skip (ej_blk (ej_th ?_))
      refine cj_regionG (gj_step (y_move rfl) rfl rfl rfl (gj_step (y_add rfl rfl (by omega)) rfl rfl rfl (gj_step (y_assign rfl) rfl rfl rfl (gj_nil ?_))))
      exact ej_nx 1 (by decide) (by decide) ⟨rfl, rfl, rfl, trivial⟩
  · have h18b := h18
    try simp only [sxb] at h18
    refine cj_exit (ej_then_exit (ej_then_exit (ej_blk_hit (ej_th (cj_seq ?_)))))
    refine cj_regionG (gj_step (y_move rfl) rfl rfl rfl (gj_step (y_lenA Tryz.underlying23 rfl) rfl rfl rfl (gj_step (y_fa0 fa99_0 rfl) rfl rfl rfl (gj_step (y_fa0 fa49_0 rfl) rfl rfl rfl (gj_step (y_load1 Tryz.isAgg23 rfl rfl) rfl rfl rfl (gj_step (y_lenA Tryz.underlying23 rfl) rfl rfl rfl (gj_step (y_eql rfl rfl) rfl rfl rfl (gj_step (y_assign rfl) rfl rfl rfl (gj_nil ?_)))))))))
    refine ej_th (cj_ret ?_)
    exact ej_ret1 rfl Tryz.results43 rfl (fun w' hp => ⟨rfl, hp.below⟩)

theorem k_asked (st co lo : Int) (As Ac : Option Addr) (cs cc : Nat) (x : Int) (Ax : Option Addr) (cx : Nat) (w : World) (hs : Rd w 1 enInt As ([st] : List Int)) (hc : Rd w 1 enInt Ac ([co] : List Int)) (hst : 1 ≤ st ∧ st ≤ 8) (hco : 0 ≤ co ∧ co ≤ 1000) (hlo : 1 ≤ lo ∧ lo ≤ st) (hx1 : Rd w 1 enInt Ax ([x] : List Int)) (hxb : 0 ≤ x ∧ x ≤ st) : Calls Tryz.prog 42 #[.agg #[.slice As ([st] : List Int).length cs, .slice Ac ([co] : List Int).length cc, .int .i64 lo, .int .i64 0], .slice Ax ([x] : List Int).length cx] w (fun e w' => e = .returned (.tuple #[.agg (([.slice As ([st] : List Int).length cs, .slice Ac ([co] : List Int).length cc, .int .i64 lo, .int .i64 0] : List Value) ++ ivs chL).toArray, .int .i64 0]) ∧ Grow w w') := by
  haveI hT85 : Tk 85 0 (([.slice As ([st] : List Int).length cs, .slice Ac ([co] : List Int).length cc, .int .i64 lo, .int .i64 0] : List Value) ++ ivs chL) (([.slice As ([st] : List Int).length cs, .slice Ac ([co] : List Int).length cc, .int .i64 lo, .int .i64 0] : List Value) ++ ivs chL) := tk_all _ (by simp only [ivs, List.length_append, List.length_map, chL_len, List.length_cons, List.length_nil])
  haveI hS85 : SetC 0 (([.slice As ([st] : List Int).length cs, .slice Ac ([co] : List Int).length cc, .int .i64 lo, .int .i64 0] : List Value) ++ ivs chL) z85 (([.slice As ([st] : List Int).length cs, .slice Ac ([co] : List Int).length cc, .int .i64 lo, .int .i64 0] : List Value) ++ ivs chL) := setc_all _ _ (by simp only [ivs, List.length_append, List.length_map, chL_len, List.length_cons, List.length_nil])
  refine enter_pure (args := [.agg #[.slice As ([st] : List Int).length cs, .slice Ac ([co] : List Int).length cc, .int .i64 lo, .int .i64 0], .slice Ax ([x] : List Int).length cx]) [sl (fun b => b < w.heap.size) 1 enInt As ([st] : List Int), sl (fun b => b < w.heap.size) 1 enInt Ac ([co] : List Int), sl (fun b => b < w.heap.size) 1 enInt Ax ([x] : List Int)] Tryz.func42 rfl (by rw [Tryz.ntmps42]; simp) (fun g hg => by simp at hg; rcases hg with rfl | rfl | rfl; exact ⟨hs, fun _ h => h⟩; exact ⟨hc, fun _ h => h⟩; exact ⟨hx1, fun _ h => h⟩) ?_
  refine cj_seq (cj_region ?_)
  refine oj_box rfl rfl rfl (fun b2 => ?_)
  refine oj_alloc Tryz.zeroValue99 rfl rfl (fun b4 => ?_)
  refine oj_step (y_assign rfl) rfl rfl rfl ?_
  refine oj_nil ?_
  refine ej_th (cj_seq (cj_seq ?_))
  refine cj_eqO [ownB b4 (cellsB 99 z85), ownB b2 (cellsB 49 [.slice As ([st] : List Int).length cs, .slice Ac ([co] : List Int).length cc, .int .i64 lo, .int .i64 0])] rfl ?_
  refine cj_regionG ?_
  refine gj_step (y_loadN Tryz.isAgg49 Tryz.sizeOf49 rfl) rfl rfl rfl (?_)
  refine gj_step (y_call Tryz.call74 rfl (fun w hp => k_Check st co lo As Ac cs cc w hp.rd hp.rd hst hco hlo)) rfl rfl rfl ?_
  refine gj_step (y_assign rfl) rfl rfl rfl (?_)
  refine gj_nil ?_
  refine ej_th (cj_seq ?_)
  refine cj_regionG (gj_step (y_move rfl) rfl rfl rfl (gj_step (y_neq rfl rfl) rfl rfl rfl (gj_nil ?_)))
  refine ej_th ?_
  refine cj_cond rfl (fun h11 => ?_) (fun h11 => ?_)
  · exact absurd h11 (by decide)
  · have h11b := h11
    try simp only [sxb] at h11
    refine cj_skip (ej_th (cj_seq ?_))
    refine cj_plan 5 (by kernel_rfl) (by kernel_rfl) ?_
    refine pl_y 0 rfl (y_loadN Tryz.isAgg49 Tryz.sizeOf49 rfl) rfl rfl rfl rfl (by kernel_rfl) ?_
    refine pl_y 1 rfl (y_call Tryz.call75 rfl (fun w hp => k_ways w)) rfl rfl rfl rfl (by kernel_rfl) ?_
    refine pl_y 2 rfl (y_build (cs := (([.slice As ([st] : List Int).length cs, .slice Ac ([co] : List Int).length cc, .int .i64 lo, .int .i64 0] : List Value) ++ ivs chL)) st99 rfl (by kernel_rfl)) rfl rfl rfl rfl (by kernel_rfl) ?_
    refine pl_w1 3 (by kernel_rfl) rfl rfl (pl_fire rfl rfl rfl (by kernel_rfl) ?_)
    refine oj_alloc Tryz.zeroValue99 rfl rfl (fun b7 => ?_)
    refine oj_eqO (ownB b7 (cellsB 99 z85) :: _) rfl ?_
    refine oj_nil ?_
    refine ej_pl (lt_y (y_build (cs := (([.slice As ([st] : List Int).length cs, .slice Ac ([co] : List Int).length cc, .int .i64 lo, .int .i64 0] : List Value) ++ ivs chL)) st99 rfl (by kernel_rfl)) rfl (lt_y (y_call Tryz.call75 rfl (fun w hp => k_ways w)) rfl (lt_y (y_loadN Tryz.isAgg49 Tryz.sizeOf49 rfl) rfl (lt_nil)))) ?_
    refine pl_w1 4 (by kernel_rfl) rfl rfl (pl_fire rfl rfl rfl (by kernel_rfl) ?_)
    refine oj_store rfl rfl rfl rfl Tryz.sizeOf99 rfl ?_
    refine oj_nil ?_
    refine ej_pl (lt_w (by kernel_rfl) (lt_w (by kernel_rfl) (lt_w (by kernel_rfl) (lt_nil)))) ?_
    refine pl_end (by kernel_rfl) ?_
    refine ej_th (cj_seq (cj_seq ?_))
    refine cj_regionG ?_
    refine gj_step (y_loadN Tryz.isAgg99 Tryz.sizeOf99 rfl) rfl rfl rfl (gj_step (y_move rfl) rfl rfl rfl (?_))
    refine gj_step (y_call Tryz.call43 rfl (fun w hp => k_lists st co lo As Ac cs cc x Ax cx w hp.rd hp.rd hxb)) rfl rfl rfl ?_
    refine gj_step (y_not rfl) rfl rfl rfl (?_)
    refine gj_nil ?_
    refine ej_th ?_
    refine cj_cond rfl (fun h20 => ?_) (fun h20 => ?_)
    · exact absurd h20 (by decide)
    · have h20b := h20
      try simp only [sxb] at h20
      refine cj_skip (ej_th (cj_seq (cj_region ?_)))
      refine oj_step (y_loadN Tryz.isAgg99 Tryz.sizeOf99 rfl) rfl rfl rfl ?_
      refine oj_store rfl rfl rfl rfl Tryz.sizeOf99 rfl ?_
      refine oj_step (y_assign rfl) rfl rfl rfl ?_
      refine oj_nil ?_
      refine ej_th (cj_ret ?_)
      exact ej_retC2 rfl Tryz.results42 rfl (y_loadN Tryz.isAgg99 Tryz.sizeOf99 rfl) rfl (fun w' hp => ⟨rfl, hp.below⟩)

end Go.Proofs.YtppfniekcgnmjaaGreat.Ce
namespace Go.Proofs.YtppfniekcgnmjaaGreat.Ce
open Go.Sx Go.RowKit
set_option maxRecDepth 20000
theorem fa99_1 : FieldIs Tryz.prog 99 1 4 81 true := ⟨⟨_, _, Tryz.underlying99, rfl, rfl, Tryz.sizeOf97, Tryz.isAgg97, by decide⟩⟩
end Go.Proofs.YtppfniekcgnmjaaGreat.Ce
