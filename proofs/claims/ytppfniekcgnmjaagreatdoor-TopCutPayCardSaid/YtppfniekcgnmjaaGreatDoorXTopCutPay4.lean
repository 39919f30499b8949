/- Texts of ours, joined: 25 of them. Conditions: none. -/
import Derived.Test.YtppfniekcgnmjaaGreatDoorXTopCutPay3
import Derived.Test.YtppfniekcgnmjaaGreatDoorProg
import Derived.Laws.StructEq
namespace Go.Proofs.YtppfniekcgnmjaaGreatDoor.Ti
open Go.Sx Go.RowKit Um
set_option maxRecDepth 20000
theorem k_few (cs hv : List Int) (Ac Ah : Option Addr) (cc ch : Nat) (fpc fph : Nat → Prop) (bc bk bh bf bm : Nat) (hD : DrwOk cs hv) : ∀ (d k : Nat) (s : Int) (w : World) (_ : k + d = cs.length) (_ : 0 ≤ s ∧ s ≤ 2000) (_ : ∀ f ∈ [mpE ekS2 evI bm (knP cs hv)], f.P w ∧ ∀ b, f.fp b → b < w.heap.size) (_ : [mpE ekS2 evI bm (knP cs hv)].Pairwise (fun f g => ∀ b, f.fp b → ¬ g.fp b)) (_ : ∀ g ∈ [ownB bc (cellsB 26 [.slice Ac cs.length cc]), ownB bk (cellsB 187 [.map (some bm)]), ownB bh (cellsB 26 [.slice Ah hv.length ch]), ownB bf (cellsB 188 [.func (.func 84) #[] #[.pointer (some ⟨bc, 0, none⟩), .pointer (some ⟨bk, 0, none⟩), .pointer (some ⟨bh, 0, none⟩), .pointer (some ⟨bf, 0, none⟩)]]), sl fpc 1 enInt Ac cs, sl fph 1 enInt Ah hv], g.P w ∧ ∀ i, g.fp i → i < w.heap.size ∧ ∀ f ∈ [mpE ekS2 evI bm (knP cs hv)], ¬ f.fp i), Calls Tryz.prog 84 #[.agg #[.int .i64 (k : Nat), .int .i64 s], .pointer (some ⟨bc, 0, none⟩), .pointer (some ⟨bk, 0, none⟩), .pointer (some ⟨bh, 0, none⟩), .pointer (some ⟨bf, 0, none⟩)] w (fun e w' => ∃ _ : Unit, e = .returned (.int .i64 (few (cs.drop k) (hv.drop k) s)) ∧ Giv [mpE ekS2 evI bm (knP cs hv)] w w' [mpE ekS2 evI bm (knP cs hv)]) := by
  intro d
  induction d with
  | zero => intro k s w hk hs hO hap hS; exact k_few1 cs hv Ac Ah cc ch fpc fph bc bk bh bf bm k s w hD (by omega) hs hO hap hS (fun h => absurd h (by omega))
  | succ d ih => intro k s w hk hs hO hap hS; exact k_few1 cs hv Ac Ah cc ch fpc fph bc bk bh bf bm k s w hD (by omega) hs hO hap hS (fun _ s w hs hO hap hS => ih (k + 1) s w (by omega) hs hO hap hS)

set_option maxHeartbeats 2000000 in
theorem k_pay (cs hv : List Int) (Ac Ah : Option Addr) (cc ch : Nat) (s : Int) (w : World) (hc : Rd w 1 enInt Ac cs) (hh : Rd w 1 enInt Ah hv) (hD : DrwOk cs hv) (hs : 0 ≤ s ∧ s ≤ 2000) : Calls Tryz.prog 49 #[.slice Ac cs.length cc, .slice Ah hv.length ch, .int .i64 s] w (fun e w' => ∃ A c, e = .returned (.tuple #[.slice A (if few cs hv s < 1073741824 then payL cs hv s else []).length c, .int .i64 (if few cs hv s < 1073741824 then 0 else 4)]) ∧ Grow w w' ∧ Res w w' 1 enInt A (if few cs hv s < 1073741824 then payL cs hv s else [])) := by
  have hl1 := hD.n
  have hl2 := hD.l
  have hlc := hc.len
  refine enter_pure (args := [.slice Ac cs.length cc, .slice Ah hv.length ch, .int .i64 s]) [sl (fun b => b < w.heap.size) 1 enInt Ac cs, sl (fun b => b < w.heap.size) 1 enInt Ah hv] Tryz.func49 rfl (by rw [Tryz.ntmps49]; simp) (fun g hg => by simp at hg; rcases hg with rfl | rfl; exact ⟨hc, fun _ h => h⟩; exact ⟨hh, fun _ h => h⟩) ?_
  refine cj_seq (cj_region ?_)
  refine oj_box rfl rfl rfl (fun b3 => ?_)
  refine oj_box rfl rfl rfl (fun b4 => ?_)
  refine oj_step (y_assign rfl) rfl rfl rfl ?_
  refine oj_step (y_assign rfl) rfl rfl rfl ?_
  refine oj_nil ?_
  refine ej_th (cj_seq (cj_region ?_))
  refine oj_makeMap ekS2 evI rfl (fun b15 => ?_)
  refine oj_alloc Tryz.zeroValue187 rfl rfl (fun b8 => ?_)
  refine oj_store rfl rfl rfl rfl Tryz.sizeOf187 rfl ?_
  refine oj_nil ?_
  refine ej_th (cj_seq (cj_region ?_))
  refine oj_alloc Tryz.zeroValue188 rfl rfl (fun b9 => ?_)
  refine oj_nil ?_
  refine ej_th (cj_seq (cj_region ?_))
  refine oj_step (y_makeFunc rfl rfl) rfl rfl rfl ?_
  refine oj_store rfl rfl rfl rfl Tryz.sizeOf188 rfl ?_
  refine oj_nil ?_
  refine ej_th (cj_seq (cj_region ?_))
  refine oj_step (y_move rfl) rfl rfl rfl ?_
  refine oj_step (y_build (cs := [.int .i64 0, .int .i64 s]) st190 rfl (by kernel_rfl)) rfl rfl rfl ?_
  refine oj_alloc Tryz.zeroValue190 rfl rfl (fun b10 => ?_)
  refine oj_store rfl rfl rfl rfl Tryz.sizeOf190 rfl ?_
  refine oj_nil ?_
  refine ej_th (cj_seq (cj_seq ?_))
  refine cj_mpC (ek := ekS2) (ev := evI) (b := b15) (knP cs hv) (knP_nil cs hv) ?_
  refine cj_region ?_
  refine oj_step (y_load1 Tryz.isAgg188 rfl rfl) rfl rfl rfl ?_
  refine oj_step (y_loadN Tryz.isAgg190 Tryz.sizeOf190 rfl) rfl rfl rfl ?_
  refine oj_callL (X := Unit) (fun _ => .int .i64 (few (cs.drop 0) (hv.drop 0) s)) [mpE ekS2 evI b15 (knP cs hv)] (fun _ => [mpE ekS2 evI b15 (knP cs hv)]) Tryz.call84 rfl rfl (fun w1 hp => by
    obtain ⟨q1, q2, q3⟩ := hp.ownL (Os := [mpE ekS2 evI b15 (knP cs hv)]) inferInstance
    have q4 := hp.ownR (Os := [mpE ekS2 evI b15 (knP cs hv)]) inferInstance
    exact k_few cs hv Ac Ah cc ch (fun b => b < w.heap.size) (fun b => b < w.heap.size) b3 b8 b4 b9 b15 hD (cs.length - 0) 0 s w1 (by omega) ⟨by omega, by omega⟩ q1 q2 (fun g hg => by
      simp only [List.mem_cons, List.mem_nil_iff, or_false] at hg
      rcases hg with rfl | rfl | rfl | rfl | rfl | rfl
      · exact q4 _ HasB.mem
      · exact q4 _ HasB.mem
      · exact q4 _ HasB.mem
      · exact q4 _ HasB.mem
      · exact q3 _ HasSl.mem
      · exact q3 _ HasSl.mem)) rfl (fun _ => ?_)
  dsimp only [List.cons_append, List.nil_append]
  refine oj_step (y_geq rfl rfl) rfl rfl rfl ?_
  refine oj_nil ?_
  refine ej_th ?_
  refine cj_cond rfl (fun h22 => ?_) (fun h22 => ?_)
  · have h22b := h22
    try simp only [sxb] at h22
    refine cj_seq ?_
    refine cj_regionG (gj_step (y_assign rfl) rfl rfl rfl (gj_step (y_assign rfl) rfl rfl rfl (gj_nil ?_)))
    refine ej_th (cj_ret (ej_then_ret ?_))
    have hfs : ¬ few cs hv s < 1073741824 := by have h7 : few (cs.drop 0) (hv.drop 0) s = few cs hv s := rfl; omega
    rw [if_neg hfs, if_neg hfs]
    exact ej_ret2 rfl Tryz.results49 rfl rfl (fun w' hp => ⟨none, 0, rfl, hp.below, Res.nil⟩)
  · have h22b := h22
    try simp only [sxb] at h22
    have hfs : few cs hv s < 1073741824 := by have h7 : few (cs.drop 0) (hv.drop 0) s = few cs hv s := rfl; omega
    refine cj_skip (ej_th (cj_seq ?_))
    skip
    refine cj_regionG (gj_step (y_assign rfl) rfl rfl rfl (gj_nil ?_))
    refine ej_th (cj_seq (cj_seq ?_))
    refine cj_ownNil 3 1 enInt ?_
    refine cj_takes [mpE ekS2 evI b15 (knP cs hv), ow 3 1 enInt none 0 [], ownB b10 (cellsB 190 [.int .i64 (0 : Nat), .int .i64 s]), ownB b9 (cellsB 188 [.func (.func 84) #[] #[.pointer (some ⟨b3, 0, none⟩), .pointer (some ⟨b8, 0, none⟩), .pointer (some ⟨b4, 0, none⟩), .pointer (some ⟨b9, 0, none⟩)]]), ownB b8 (cellsB 187 [.map (some b15)]), ownB b4 (cellsB 26 [.slice Ah hv.length ch]), ownB b3 (cellsB 26 [.slice Ac cs.length cc])] ?_
    refine cj_regionG (gj_step (y_load1 Tryz.isAgg26 rfl rfl) rfl rfl rfl (gj_step (y_lenA Tryz.underlying26 rfl) rfl rfl rfl (gj_step (y_move rfl) rfl rfl rfl (gj_nil ?_))))
    refine ej_th (cj_block ?_)
    refine cj_lpi (X := Nat × Int × List Int × Option Addr × Nat) [(4, _), (6, _), (7, _), (9, _), (10, _), (23, _), (24, _)] (fun ⟨k, u, out, Ao, co⟩ => k ≤ cs.length ∧ (0 ≤ u ∧ u ≤ 2000) ∧ few (cs.drop k) (hv.drop k) u < 1073741824 ∧ out ++ payL (cs.drop k) (hv.drop k) u = payL cs hv s ∧ out.length = k) (fun ⟨k, u, out, Ao, co⟩ => [(25, .int .i64 (k : Nat)), (11, .slice Ao out.length co)]) (fun ⟨k, u, out, Ao, co⟩ => [mpE ekS2 evI b15 (knP cs hv), ow 3 1 enInt Ao co out, ownB b10 (cellsB 190 [.int .i64 (k : Nat), .int .i64 u]), ownB b9 (cellsB 188 [.func (.func 84) #[] #[.pointer (some ⟨b3, 0, none⟩), .pointer (some ⟨b8, 0, none⟩), .pointer (some ⟨b4, 0, none⟩), .pointer (some ⟨b9, 0, none⟩)]]), ownB b8 (cellsB 187 [.map (some b15)]), ownB b4 (cellsB 26 [.slice Ah hv.length ch]), ownB b3 (cellsB 26 [.slice Ac cs.length cc])]) (fun ⟨k, u, out, Ao, co⟩ => [sl (fun b => b < w.heap.size) 1 enInt Ac cs, sl (fun b => b < w.heap.size) 1 enInt Ah hv]) (fun ⟨k, u, out, Ao, co⟩ => cs.length - k) (0, s, [], none, 0) (⟨Nat.zero_le _, hs, hfs, rfl, rfl⟩) ⟨rfl, rfl, rfl, rfl, rfl, rfl, rfl, rfl, rfl, trivial⟩ ?_
    rintro ⟨k, u, out, Ao, co⟩ ⟨hk, hub, hfu, hso, hlo⟩
    dsimp only [List.cons_append, List.nil_append]
    refine cj_seq ?_
    refine cj_regionG (gj_step (y_lss rfl rfl) rfl rfl rfl (gj_nil ?_))
    refine ej_th (cj_seq ?_)
    refine cj_cond rfl (fun h26 => ?_) (fun h26 => ?_)
    · have h26b := h26
      try simp only [sxb] at h26
      obtain ⟨c, hcx⟩ : ∃ c, cs[k]? = some c := ⟨_, List.getElem?_eq_getElem (by omega)⟩
      obtain ⟨h, hhx⟩ : ∃ h, hv[k]? = some h := ⟨_, List.getElem?_eq_getElem (by omega)⟩
      have hcb := hD.c c (List.mem_of_getElem? hcx)
      have hhb := hD.h h (List.mem_of_getElem? hhx)
      have hmm := most_eq (c := c) (h := h) (s := u) hhb.1 hcb.1 hub.1
      have hmb := most_bd (c := c) (h := h) (s := u) hcb.1 hhb.1 hub.1
      have hq0 := Int.ediv_nonneg hub.1 (show 0 ≤ c by omega)
      have hfa := few_at u hcx hhx
      obtain ⟨m, hm1, hm2⟩ := fewB_att (by rw [← hfa]; exact hfu)
      rw [← hfa] at hm2
      have hpa := pay_at u hcx hhx
      refine cj_skip (ej_th (cj_seq (cj_block (cj_seq ?_))))
      refine cj_regionG (gj_step (y_move rfl) rfl rfl rfl (gj_step (y_ixR (reads_sl) Tryz.underlying26 Tryz.sizeOf3 rfl rfl (⟨by omega, by omega⟩)) rfl rfl rfl (gj_step (y_ld0 (reads_sl) Tryz.isAgg3 rfl (hcx) rfl) rfl rfl rfl (gj_step (y_assign rfl) rfl rfl rfl (gj_step (y_assign rfl) rfl rfl rfl (gj_nil ?_))))))
      refine ej_th (cj_seq ?_)
      refine cj_draw (by kernel_rfl) (by kernel_rfl) (gj_step (y_load1 Tryz.isAgg26 rfl rfl) rfl rfl rfl (gj_step (y_move rfl) rfl rfl rfl (gj_step (y_ixR (reads_sl) Tryz.underlying26 Tryz.sizeOf3 rfl rfl (⟨by omega, by omega⟩)) rfl rfl rfl (gj_step (y_ld0 (reads_sl) Tryz.isAgg3 rfl (hhx) rfl) rfl rfl rfl (gj_step (y_fa fa190_1 rfl) rfl rfl rfl (gj_step (y_load1 Tryz.isAgg3 rfl rfl) rfl rfl rfl (gj_step (y_move rfl) rfl rfl rfl (gj_step (y_quo rfl rfl (⟨by omega, by omega, by omega⟩)) rfl rfl rfl (gj_step (y_min rfl rfl) rfl rfl rfl (gj_step (y_assign rfl) rfl rfl rfl (gj_nil ?_)))))))))))
      refine ej_th (cj_seq (cj_block ?_))
      rw [show min h (u / c) = ((mostN c h u : Nat) : Int) from hmm.symm]
      refine cj_lpic (X := Nat) [(25, _), (11, _), (4, _), (6, _), (7, _), (9, _), (10, _), (23, _), (24, _), (12, _), (13, _)] (fun n => n ≤ mostN c h u ∧ m ≤ n ∧ descN (few (cs.drop (k + 1)) (hv.drop (k + 1))) c u (few (cs.drop k) (hv.drop k) u) (mostN c h u) = descN (few (cs.drop (k + 1)) (hv.drop (k + 1))) c u (few (cs.drop k) (hv.drop k) u) n) (fun n => [(14, .int .i64 (n : Nat))]) (fun n => n) (mostN c h u) (⟨Nat.le_refl _, by omega, rfl⟩) ⟨rfl, rfl, rfl, rfl, rfl, rfl, rfl, rfl, rfl, rfl, rfl, rfl, trivial⟩ ?_
      rintro n ⟨hn, hmn, hsn⟩
      dsimp only [List.cons_append, List.nil_append]
      have hnc : (n : Int) * c ≤ (mostN c h u : Int) * c := Int.mul_le_mul_of_nonneg_right (by omega) (by omega)
      have hn0 : 0 ≤ (n : Int) * c := Int.mul_nonneg (by omega) (by omega)
      have hf0 := few_nn (cs.drop (k + 1)) (hv.drop (k + 1)) (u - (n : Nat) * c)
      have hf1 := few_le (cs.drop (k + 1)) (hv.drop (k + 1)) (u - (n : Nat) * c)
      have hg0 := few_nn (cs.drop k) (hv.drop k) u
      refine cj_seq ?_
      refine cj_cutic (X := Unit) [(14, _), (25, _), (11, _), (4, _), (6, _), (7, _), (9, _), (10, _), (23, _), (24, _), (12, _), (13, _)] ⟨rfl, rfl, rfl, rfl, rfl, rfl, rfl, rfl, rfl, rfl, rfl, rfl, trivial⟩ (fun _ => True) (fun _ => [(55, .bool (((n : Nat) : Int) + few (cs.drop (k + 1)) (hv.drop (k + 1)) (u - (n : Nat) * c) != (few (cs.drop k) (hv.drop k) u)))]) ?_ ?_
      · refine cj_plan 17 (by kernel_rfl) (by kernel_rfl) ?_
        refine pl_y 0 rfl (y_move rfl) rfl rfl rfl rfl (by kernel_rfl) ?_
        refine pl_y 1 rfl (y_load1 Tryz.isAgg188 rfl rfl) rfl rfl rfl rfl (by kernel_rfl) ?_
        refine pl_y 2 rfl (y_move rfl) rfl rfl rfl rfl (by kernel_rfl) ?_
        refine pl_y 3 rfl (y_add rfl rfl (by omega)) rfl rfl rfl rfl (by kernel_rfl) ?_
        refine pl_y 4 rfl (y_fa fa190_1 rfl) rfl rfl rfl rfl (by kernel_rfl) ?_
        refine pl_y 5 rfl (y_load1 Tryz.isAgg3 rfl rfl) rfl rfl rfl rfl (by kernel_rfl) ?_
        refine pl_y 6 rfl (y_move rfl) rfl rfl rfl rfl (by kernel_rfl) ?_
        refine pl_y 7 rfl (y_move rfl) rfl rfl rfl rfl (by kernel_rfl) ?_
        refine pl_y 8 rfl (y_mul rfl rfl (by omega)) rfl rfl rfl rfl (by kernel_rfl) ?_
        refine pl_y 9 rfl (y_sub rfl rfl (by omega)) rfl rfl rfl rfl (by kernel_rfl) ?_
        refine pl_y 10 rfl (y_build (cs := [.int .i64 ((k : Nat) + 1), .int .i64 (u - (n : Nat) * c)]) st190 rfl (by kernel_rfl)) rfl rfl rfl rfl (by kernel_rfl) ?_
        refine pl_y 13 rfl (y_load1 Tryz.isAgg188 rfl rfl) rfl rfl rfl rfl (by kernel_rfl) ?_
        refine pl_y 14 rfl (y_loadN Tryz.isAgg190 Tryz.sizeOf190 rfl) rfl rfl rfl rfl (by kernel_rfl) ?_
        refine pl_w1 11 (by kernel_rfl) rfl rfl (pl_fire rfl rfl rfl (by kernel_rfl) ?_)
        refine oj_callL (X := Unit) (fun _ => .int .i64 (few (cs.drop (k + 1)) (hv.drop (k + 1)) (u - (n : Nat) * c))) [mpE ekS2 evI b15 (knP cs hv)] (fun _ => [mpE ekS2 evI b15 (knP cs hv)]) Tryz.call84 rfl rfl (fun w1 hp => by
          obtain ⟨q1, q2, q3⟩ := hp.ownL (Os := [mpE ekS2 evI b15 (knP cs hv)]) inferInstance
          have q4 := hp.ownR (Os := [mpE ekS2 evI b15 (knP cs hv)]) inferInstance
          rw [show ((k : Nat) : Int) + 1 = ((k + 1 : Nat) : Int) by omega]
          exact k_few cs hv Ac Ah cc ch (fun b => b < w.heap.size) (fun b => b < w.heap.size) b3 b8 b4 b9 b15 hD (cs.length - (k + 1)) (k + 1) (u - (n : Nat) * c) w1 (by omega) ⟨by omega, by omega⟩ q1 q2 (fun g hg => by
            simp only [List.mem_cons, List.mem_nil_iff, or_false] at hg
            rcases hg with rfl | rfl | rfl | rfl | rfl | rfl
            · exact q4 _ HasB.mem
            · exact q4 _ HasB.mem
            · exact q4 _ HasB.mem
            · exact q4 _ HasB.mem
            · exact q3 _ HasSl.mem
            · exact q3 _ HasSl.mem)) rfl (fun _ => ?_)
        dsimp only [List.cons_append, List.nil_append]
        refine oj_nil ?_
        refine ej_pl (lt_y (y_loadN Tryz.isAgg190 Tryz.sizeOf190 rfl) rfl (lt_y (y_load1 Tryz.isAgg188 rfl rfl) rfl (lt_w (by kernel_rfl) (lt_y (y_sub rfl rfl (by omega)) rfl (lt_y (y_mul rfl rfl (by omega)) rfl (lt_y (y_move rfl) rfl (lt_y (y_move rfl) rfl (lt_y (y_load1 Tryz.isAgg3 rfl rfl) rfl (lt_y (y_fa fa190_1 rfl) rfl (lt_y (y_add rfl rfl (by omega)) rfl (lt_y (y_move rfl) rfl (lt_w (by kernel_rfl) (lt_y (y_move rfl) rfl (lt_nil)))))))))))))) ?_
        refine pl_y 12 rfl (y_add rfl rfl (by omega)) rfl rfl rfl rfl (by kernel_rfl) ?_
        refine pl_w1 15 (by kernel_rfl) rfl rfl (pl_fire rfl rfl rfl (by kernel_rfl) ?_)
        refine oj_callL (X := Unit) (fun _ => .int .i64 (few (cs.drop k) (hv.drop k) u)) [mpE ekS2 evI b15 (knP cs hv)] (fun _ => [mpE ekS2 evI b15 (knP cs hv)]) Tryz.call84 rfl rfl (fun w1 hp => by
          obtain ⟨q1, q2, q3⟩ := hp.ownL (Os := [mpE ekS2 evI b15 (knP cs hv)]) inferInstance
          have q4 := hp.ownR (Os := [mpE ekS2 evI b15 (knP cs hv)]) inferInstance
          exact k_few cs hv Ac Ah cc ch (fun b => b < w.heap.size) (fun b => b < w.heap.size) b3 b8 b4 b9 b15 hD (cs.length - k) k u w1 (by omega) ⟨by omega, by omega⟩ q1 q2 (fun g hg => by
            simp only [List.mem_cons, List.mem_nil_iff, or_false] at hg
            rcases hg with rfl | rfl | rfl | rfl | rfl | rfl
            · exact q4 _ HasB.mem
            · exact q4 _ HasB.mem
            · exact q4 _ HasB.mem
            · exact q4 _ HasB.mem
            · exact q3 _ HasSl.mem
            · exact q3 _ HasSl.mem)) rfl (fun _ => ?_)
        dsimp only [List.cons_append, List.nil_append]
        refine oj_nil ?_
        refine ej_pl (lt_y (y_add rfl rfl (by omega)) rfl (lt_w (by kernel_rfl) (lt_w (by kernel_rfl) (lt_y (y_build (cs := [.int .i64 ((k : Nat) + 1), .int .i64 (u - (n : Nat) * c)]) st190 rfl (by kernel_rfl)) rfl (lt_y (y_sub rfl rfl (by omega)) rfl (lt_y (y_mul rfl rfl (by omega)) rfl (lt_y (y_move rfl) rfl (lt_y (y_move rfl) rfl (lt_y (y_load1 Tryz.isAgg3 rfl rfl) rfl (lt_y (y_fa fa190_1 rfl) rfl (lt_y (y_add rfl rfl (by omega)) rfl (lt_y (y_move rfl) rfl (lt_y (y_load1 Tryz.isAgg188 rfl rfl) rfl (lt_y (y_move rfl) rfl (lt_nil))))))))))))))) ?_
        refine pl_y 16 rfl (y_neq rfl rfl) rfl rfl rfl rfl (by kernel_rfl) ?_
        refine pl_end (by kernel_rfl) ?_
        exact ej_ct () trivial ⟨rfl, rfl, rfl, rfl, rfl, rfl, rfl, rfl, rfl, rfl, rfl, rfl, rfl, trivial⟩
      · rintro ⟨⟩ -
        dsimp only [List.cons_append, List.nil_append]
        refine cj_cond rfl (fun h55 => ?_) (fun h55 => ?_)
        · have h55b := h55
          try simp only [sxb] at h55
          have hn1 : 1 ≤ n := by
            by_cases e : n = 0
            · subst e
              have : m = 0 := by omega
              subst this
              exact absurd hm2 h55
            · omega
          refine cj_skip (ej_th (cj_block ?_))
          refine cj_regionG (gj_step (y_move rfl) rfl rfl rfl (gj_step (y_sub rfl rfl (by omega)) rfl rfl rfl (gj_step (y_assign rfl) rfl rfl rfl (gj_nil ?_))))
          refine ej_blk ?_
          rw [show ((n : Nat) : Int) - 1 = ((n - 1 : Nat) : Int) by omega]
          exact ej_nx (n - 1) (by omega) ⟨by omega, by by_cases e : m = n; exact absurd (by rw [← e]; exact hm2) h55; omega, by rw [hsn]; exact descN_down h55⟩ ⟨rfl, rfl, rfl, rfl, rfl, rfl, rfl, rfl, rfl, rfl, rfl, rfl, trivial⟩
        · have h55b := h55
          try simp only [sxb] at h55
          have heq : ((n : Nat) : Int) + few (cs.drop (k + 1)) (hv.drop (k + 1)) (u - (n : Nat) * c) = (few (cs.drop k) (hv.drop k) u) := by omega
          rw [hsn, descN_stop heq] at hpa
          refine cj_exit (ej_then_exit (ej_then_exit (ej_blk_hit (ej_th ?_))))
          refine cj_plan 15 (by kernel_rfl) (by kernel_rfl) ?_
          refine pl_y 0 rfl (y_move rfl) rfl rfl rfl rfl (by kernel_rfl) ?_
          refine pl_y 1 rfl (y_move rfl) rfl rfl rfl rfl (by kernel_rfl) ?_
          refine pl_y 4 rfl (y_move rfl) rfl rfl rfl rfl (by kernel_rfl) ?_
          refine pl_y 5 rfl (y_add rfl rfl (by omega)) rfl rfl rfl rfl (by kernel_rfl) ?_
          refine pl_y 6 rfl (y_fa fa190_1 rfl) rfl rfl rfl rfl (by kernel_rfl) ?_
          refine pl_y 7 rfl (y_load1 Tryz.isAgg3 rfl rfl) rfl rfl rfl rfl (by kernel_rfl) ?_
          refine pl_y 8 rfl (y_move rfl) rfl rfl rfl rfl (by kernel_rfl) ?_
          refine pl_y 9 rfl (y_move rfl) rfl rfl rfl rfl (by kernel_rfl) ?_
          refine pl_y 10 rfl (y_mul rfl rfl (by omega)) rfl rfl rfl rfl (by kernel_rfl) ?_
          refine pl_y 11 rfl (y_sub rfl rfl (by omega)) rfl rfl rfl rfl (by kernel_rfl) ?_
          refine pl_y 12 rfl (y_build (cs := [.int .i64 ((k : Nat) + 1), .int .i64 (u - (n : Nat) * c)]) st190 rfl (by kernel_rfl)) rfl rfl rfl rfl (by kernel_rfl) ?_
          refine pl_w1 2 (by kernel_rfl) rfl rfl (pl_fire rfl rfl rfl (by kernel_rfl) ?_)
          refine oj_buildSlice (cs := [.int .i64 (n : Nat)]) [.int .i64 0] Tryz.underlying26 Tryz.sizeOf3 Tryz.zeroValue3 rfl rfl (by kernel_rfl) (by kernel_rfl) rfl (fun b60 => ?_)
          refine oj_nil ?_
          refine ej_pl (lt_y (y_build (cs := [.int .i64 ((k : Nat) + 1), .int .i64 (u - (n : Nat) * c)]) st190 rfl (by kernel_rfl)) rfl (lt_y (y_sub rfl rfl (by omega)) rfl (lt_y (y_mul rfl rfl (by omega)) rfl (lt_y (y_move rfl) rfl (lt_y (y_move rfl) rfl (lt_y (y_load1 Tryz.isAgg3 rfl rfl) rfl (lt_y (y_fa fa190_1 rfl) rfl (lt_y (y_add rfl rfl (by omega)) rfl (lt_y (y_move rfl) rfl (lt_w (by kernel_rfl) (lt_y (y_move rfl) rfl (lt_nil)))))))))))) ?_
          refine pl_w1 3 (by kernel_rfl) rfl rfl (pl_fire rfl rfl rfl (by kernel_rfl) ?_)
          refine oj_append  el26 (fun _ => rfl) enInt_one rfl rfl rfl (reads_lit [((n : Nat) : Int)] (fun _ => rfl) rfl) (by unfold maxLen; simp only [List.length_cons, List.length_nil]; omega) (by simp only [List.length_cons, List.length_nil]; omega) rfl (fun A61 c61 => ?_)
          refine oj_nil ?_
          refine ej_pl (lt_y (y_build (cs := [.int .i64 ((k : Nat) + 1), .int .i64 (u - (n : Nat) * c)]) st190 rfl (by kernel_rfl)) rfl (lt_y (y_sub rfl rfl (by omega)) rfl (lt_y (y_mul rfl rfl (by omega)) rfl (lt_y (y_move rfl) rfl (lt_y (y_move rfl) rfl (lt_y (y_load1 Tryz.isAgg3 rfl rfl) rfl (lt_y (y_fa fa190_1 rfl) rfl (lt_y (y_add rfl rfl (by omega)) rfl (lt_y (y_move rfl) rfl (lt_y (y_move rfl) rfl (lt_w (by kernel_rfl) (lt_nil)))))))))))) ?_
          refine pl_y 13 rfl (y_assign rfl) rfl rfl rfl rfl (by kernel_rfl) ?_
          refine pl_w1 14 (by kernel_rfl) rfl rfl (pl_fire rfl rfl rfl (by kernel_rfl) ?_)
          refine oj_store rfl rfl rfl rfl Tryz.sizeOf190 rfl ?_
          refine oj_nil ?_
          refine ej_pl (lt_w (by kernel_rfl) (lt_w (by kernel_rfl) (lt_w (by kernel_rfl) (lt_w (by kernel_rfl) (lt_w (by kernel_rfl) (lt_w (by kernel_rfl) (lt_w (by kernel_rfl) (lt_w (by kernel_rfl) (lt_w (by kernel_rfl) (lt_w (by kernel_rfl) (lt_w (by kernel_rfl) (lt_w (by kernel_rfl) (lt_nil))))))))))))) ?_
          refine pl_end (by kernel_rfl) ?_
          refine ej_blk (ej_th ?_)
          refine cj_regionG (gj_step (y_add rfl rfl (by omega)) rfl rfl rfl (gj_step (y_move rfl) rfl rfl rfl (gj_nil ?_)))
          rw [show ((k : Nat) : Int) + 1 = ((k + 1 : Nat) : Int) by omega]
          refine ej_takes [mpE ekS2 evI b15 (knP cs hv), ow 3 1 enInt A61 c61 (out ++ [((n : Nat) : Int)]), ownB b10 (cellsB 190 [.int .i64 ((k + 1) : Nat), .int .i64 (u - (n : Nat) * c)]), ownB b9 (cellsB 188 [.func (.func 84) #[] #[.pointer (some ⟨b3, 0, none⟩), .pointer (some ⟨b8, 0, none⟩), .pointer (some ⟨b4, 0, none⟩), .pointer (some ⟨b9, 0, none⟩)]]), ownB b8 (cellsB 187 [.map (some b15)]), ownB b4 (cellsB 26 [.slice Ah hv.length ch]), ownB b3 (cellsB 26 [.slice Ac cs.length cc])] ?_
          exact ej_nx (k + 1, (u - (n : Nat) * c), out ++ [((n : Nat) : Int)], A61, c61) (by first | omega | (simp only; omega)) ⟨by first | omega | (simp only; omega), ⟨by first | omega | (simp only; omega), by first | omega | (simp only; omega)⟩, by first | omega | (simp only; omega), by rw [← hso, hpa, List.append_assoc]; rfl, by simp only [List.length_append, List.length_cons, List.length_nil]; omega⟩ ⟨rfl, rfl, rfl, rfl, rfl, rfl, rfl, rfl, rfl, trivial⟩
    · have h26b := h26
      try simp only [sxb] at h26
      refine cj_exit (ej_then_exit (ej_then_exit (ej_blk_hit (ej_th (cj_seq ?_)))))
      refine cj_regionG (gj_step (y_move rfl) rfl rfl rfl (gj_step (y_assign rfl) rfl rfl rfl (gj_step (y_assign rfl) rfl rfl rfl (gj_nil ?_))))
      refine ej_th (cj_ret ?_)
      have hkn : k = cs.length := by omega
      have hpo : out = payL cs hv s := by rw [← hso, hkn, List.drop_of_length_le (Nat.le_refl _), payL, List.append_nil]
      subst hpo
      rw [if_pos hfs, if_pos hfs]
      exact ej_ret2 rfl Tryz.results49 rfl rfl (fun w' hp => ⟨Ao, co, rfl, hp.below, hp.res enInt_len (by unfold maxLen; omega)⟩)

theorem k_Pay (cs hv : List Int) (Ac Ah : Option Addr) (cc ch : Nat) (s : Int) (w : World) (hc : Rd w 1 enInt Ac cs) (hh : Rd w 1 enInt Ah hv) : Calls Tryz.prog 18 #[.agg #[.slice Ac cs.length cc, .slice Ah hv.length ch], .int .i64 s] w (fun e w' => ∃ A c, e = .returned (.tuple #[.slice A (PayL cs hv s).length c, .int .i64 (PayE cs hv s)]) ∧ Grow w w' ∧ Res w w' 1 enInt A (PayL cs hv s)) := by
  refine enter_pure (args := [.agg #[.slice Ac cs.length cc, .slice Ah hv.length ch], .int .i64 s]) [sl (fun b => b < w.heap.size) 1 enInt Ac cs, sl (fun b => b < w.heap.size) 1 enInt Ah hv] Tryz.func18 rfl (by rw [Tryz.ntmps18]; simp) (fun g hg => by simp at hg; rcases hg with rfl | rfl; exact ⟨hc, fun _ h => h⟩; exact ⟨hh, fun _ h => h⟩) ?_
  refine cj_seq (cj_region ?_)
  refine oj_box rfl rfl rfl (fun b2 => ?_)
  refine oj_step (y_assign rfl) rfl rfl rfl ?_
  refine oj_step (y_assign rfl) rfl rfl rfl ?_
  refine oj_nil ?_
  refine ej_th (cj_seq (cj_seq ?_))
  refine cj_regionG ?_
  refine gj_step (y_loadN Tryz.isAgg92 Tryz.sizeOf92 rfl) rfl rfl rfl (?_)
  refine gj_step (y_call Tryz.call47 rfl (fun w hp => k_Check cs hv Ac Ah cc ch w hp.rd hp.rd)) rfl rfl rfl ?_
  refine gj_step (y_assign rfl) rfl rfl rfl (?_)
  refine gj_nil ?_
  refine ej_th (cj_seq ?_)
  refine cj_regionG (gj_step (y_move rfl) rfl rfl rfl (gj_step (y_neq rfl rfl) rfl rfl rfl (gj_nil ?_)))
  refine ej_th ?_
  refine cj_cond rfl (fun h10 => ?_) (fun h10 => ?_)
  · have h10b := h10
    try simp only [sxb] at h10
    have hdb : drwB cs hv = false := by cases e : drwB cs hv with
      | false => rfl
      | true => rw [CheE, e] at h10; exact absurd rfl h10
    refine cj_seq ?_
    refine cj_regionG (gj_step (y_move rfl) rfl rfl rfl (gj_step (y_assign rfl) rfl rfl rfl (gj_step (y_assign rfl) rfl rfl rfl (gj_nil ?_))))
    refine ej_th (cj_ret (ej_then_ret ?_))
    rw [show PayL cs hv s = [] by rw [PayL, PayE, hdb]; rfl, show PayE cs hv s = 80 by rw [PayE, hdb]; rfl, CheE, hdb]
    exact ej_ret2 rfl Tryz.results18 rfl rfl (fun w' hp => ⟨none, 0, rfl, hp.below, Res.nil⟩)
  · have h10b := h10
    try simp only [sxb] at h10
    have hdb : drwB cs hv = true := by cases e : drwB cs hv with
      | true => rfl
      | false => rw [CheE, e] at h10; exact absurd h10 (by decide)
    refine cj_skip (ej_th (cj_seq (cj_seq ?_)))
    refine cj_regionG ?_
    refine gj_step (y_move rfl) rfl rfl rfl (?_)
    refine gj_step (y_call Tryz.call48 rfl (fun w hp => k_within _ _ _ w)) rfl rfl rfl ?_
    refine gj_step (y_not rfl) rfl rfl rfl (?_)
    refine gj_nil ?_
    refine ej_th ?_
    refine cj_cond rfl (fun h14 => ?_) (fun h14 => ?_)
    · have h14b := h14
      try simp only [sxb] at h14
      refine cj_seq ?_
      refine cj_regionG (gj_step (y_assign rfl) rfl rfl rfl (gj_step (y_assign rfl) rfl rfl rfl (gj_nil ?_)))
      refine ej_th (cj_ret (ej_then_ret ?_))
      rw [show PayL cs hv s = [] by rw [PayL, PayE, hdb, not_t h14b]; rfl, show PayE cs hv s = 7 by rw [PayE, hdb, not_t h14b]; rfl]
      exact ej_ret2 rfl Tryz.results18 rfl rfl (fun w' hp => ⟨none, 0, rfl, hp.below, Res.nil⟩)
    · have h14b := h14
      try simp only [sxb] at h14
      have hsb := btw_t (not_f h14b)
      refine cj_skip (ej_th (cj_seq (cj_region ?_)))
      refine oj_step (y_fa0 fa92_0 rfl) rfl rfl rfl ?_
      refine oj_step (y_load1 Tryz.isAgg26 rfl rfl) rfl rfl rfl ?_
      refine oj_step (y_fa fa92_1 rfl) rfl rfl rfl ?_
      refine oj_step (y_load1 Tryz.isAgg26 rfl rfl) rfl rfl rfl ?_
      refine oj_step (y_move rfl) rfl rfl rfl ?_
      refine oj_callS (fun A c => .tuple #[.slice A (if few cs hv s < 1073741824 then payL cs hv s else []).length c, .int .i64 (if few cs hv s < 1073741824 then 0 else 4)]) 1 enInt (if few cs hv s < 1073741824 then payL cs hv s else []) Tryz.call49 rfl (fun w hp => k_pay cs hv Ac Ah cc ch s w hp.rd hp.rd (drw_ok hdb) hsb) rfl (fun A20 c20 fp20 hfp20 => ?_)
      refine oj_step (y_extract rfl rfl) rfl rfl rfl ?_
      refine oj_step (y_extract rfl rfl) rfl rfl rfl ?_
      refine oj_step (y_assign rfl) rfl rfl rfl ?_
      refine oj_step (y_assign rfl) rfl rfl rfl ?_
      refine oj_nil ?_
      refine ej_th (cj_ret ?_)
      have hE : PayE cs hv s = if few cs hv s < 1073741824 then 0 else 4 := by rw [PayE, hdb, not_f h14b]; rfl
      have hL : PayL cs hv s = if few cs hv s < 1073741824 then payL cs hv s else [] := by rw [PayL, hE]; split <;> rfl
      rw [hL, hE]
      exact ej_ret2 rfl Tryz.results18 rfl rfl (fun w' hp => ⟨A20, c20, rfl, hp.below, hp.resS hfp20⟩)

end Go.Proofs.YtppfniekcgnmjaaGreatDoor.Ti
namespace Go.Proofs.YtppfniekcgnmjaaGreatDoor.To
open Go.Sx Go.RowKit
set_option maxRecDepth 20000
theorem eq63 (a0 b0 : Int) (a1 b1 : Int) (x y : Operand) (w : World) : (do eqGuard .eql 63 x y (.agg #[.int .i64 a0, .int .i64 a1]) (.agg #[.int .i64 b0, .int .i64 b1]); binOp .eql 63 (.agg #[.int .i64 a0, .int .i64 a1]) (.agg #[.int .i64 b0, .int .i64 b1]) : Sem Value).run Tryz.prog w = .ok (.bool ((a0 == b0) && (a1 == b1))) w := by
  simp [go_sem, Tryz.eqGuardType63, Tryz.stoodInHeld63, Tryz.underlying63, Tryz.underlying3]
  try ((repeat' split) <;> simp_all)
theorem st109 : StructIs Tryz.prog 109 [(0, 1), (1, 1)] [.int .i64 0, .int .i64 0] := ⟨⟨_, Tryz.underlying109, fun w => by simp [Tryz.sizeOf3], Tryz.zeroValue109⟩⟩
theorem st111 : StructIs Tryz.prog 111 [(0, 1), (1, 1), (2, 1)] [.int .i64 0, .int .i64 0, .int .i64 0] := ⟨⟨_, Tryz.underlying111, fun w => by simp [Tryz.sizeOf3], Tryz.zeroValue111⟩⟩
theorem st159 : StructIs Tryz.prog 159 [(0, 1), (1, 1), (2, 1)] [.int .i64 0, .int .i64 0, .int .i64 0] := ⟨⟨_, Tryz.underlying159, fun w => by simp [Tryz.sizeOf3], Tryz.zeroValue159⟩⟩
theorem st161 : StructIs Tryz.prog 161 [(0, 1), (1, 1)] [.int .i64 0, .int .i64 0] := ⟨⟨_, Tryz.underlying161, fun w => by simp [Tryz.sizeOf3], Tryz.zeroValue161⟩⟩
theorem st63 : StructIs Tryz.prog 63 [(0, 1), (1, 1)] [.int .i64 0, .int .i64 0] := ⟨⟨_, Tryz.underlying63, fun w => by simp [Tryz.sizeOf3], Tryz.zeroValue63⟩⟩
theorem st67 : StructIs Tryz.prog 67 [(0, 1), (1, 1), (2, 1)] [.int .i64 0, .int .i64 0, .slice none 0 0] := ⟨⟨_, Tryz.underlying67, fun w => by simp [Tryz.sizeOf3, Tryz.sizeOf54], Tryz.zeroValue67⟩⟩
end Go.Proofs.YtppfniekcgnmjaaGreatDoor.To
namespace Go.Proofs.YtppfniekcgnmjaaGreatDoor.To
open Go.Sx Go.RowKit
set_option maxRecDepth 20000
theorem st136 : StructIs Tryz.prog 136 [(0, 1), (1, 1)] [.slice none 0 0, .slice none 0 0] := ⟨⟨_, Tryz.underlying136, fun w => by simp [Tryz.sizeOf134, Tryz.sizeOf26], Tryz.zeroValue136⟩⟩
theorem st198 : StructIs Tryz.prog 198 [(0, 1), (1, 1), (2, 1)] [.int .i64 0, .int .i64 0, .int .i64 0] := ⟨⟨_, Tryz.underlying198, fun w => by simp [Tryz.sizeOf3], Tryz.zeroValue198⟩⟩
theorem st201 : StructIs Tryz.prog 201 [(0, 1), (1, 1), (2, 1), (3, 1)] [.int .i64 0, .int .i64 0, .int .i64 0, .slice none 0 0] := ⟨⟨_, Tryz.underlying201, fun w => by simp [Tryz.sizeOf26, Tryz.sizeOf3], Tryz.zeroValue201⟩⟩
theorem st204 : StructIs Tryz.prog 204 [(0, 1), (1, 1), (2, 1)] [.slice none 0 0, .slice none 0 0, .slice none 0 0] := ⟨⟨_, Tryz.underlying204, fun w => by simp [Tryz.sizeOf199, Tryz.sizeOf202, Tryz.sizeOf26], Tryz.zeroValue204⟩⟩
theorem st208 : StructIs Tryz.prog 208 [(0, 1), (1, 1)] [.int .i64 0, .int .i64 0] := ⟨⟨_, Tryz.underlying208, fun w => by simp [Tryz.sizeOf3], Tryz.zeroValue208⟩⟩
theorem st92 : StructIs Tryz.prog 92 [(0, 1), (1, 1)] [.slice none 0 0, .slice none 0 0] := ⟨⟨_, Tryz.underlying92, fun w => by simp [Tryz.sizeOf26], Tryz.zeroValue92⟩⟩
end Go.Proofs.YtppfniekcgnmjaaGreatDoor.To
namespace Go.Proofs.YtppfniekcgnmjaaGreatDoor.To
open Go.Sx Go.RowKit Um
set_option maxRecDepth 20000
abbrev at4 (b : Nat) : Option Addr := some ⟨b, 0, none⟩
theorem c_cod1 : Tk.CodS 1 = ⟨#[48, 48, 48, 48, 48, 48, 48, 49, 57, 53]⟩ := by kernel_rfl
theorem c_ent (p q r s : Nat) : Va.EntV (Va.StrV.mk (at4 p) 2 ([⟨0, 0, 0⟩, ⟨1, 0, 0⟩] : List Vm.RoomV) (at4 q) 1 [Va.GateV.mk 0 1 2 (at4 r) 1 [1]] (at4 s) 2 [1, 0]) 3 = 3 := by kernel_rfl
theorem c_entE (p q r s : Nat) : Va.askE (Va.StrV.mk (at4 p) 2 ([⟨0, 0, 0⟩, ⟨1, 0, 0⟩] : List Vm.RoomV) (at4 q) 1 [Va.GateV.mk 0 1 2 (at4 r) 1 [1]] (at4 s) 2 [1, 0]) 3 = 0 := by kernel_rfl
theorem c_agr : Pl.AgrB [⟨2, 1⟩] [100] [104] = true := by kernel_rfl
theorem c_agrE : Pl.AgrE [⟨2, 1⟩] [100] [104] = 0 := by kernel_rfl
theorem c_most4 : Le.MostN 40 300 5000 400 900 = 300 := by decide
theorem c_mostE4 : Le.MostE 40 300 5000 400 900 = 0 := by decide
theorem c_sell6 : Au.SellV 10 0 [⟨0, 5⟩] [⟨4, 0, 17⟩, ⟨3, 0, 12⟩] = ⟨4, 15⟩ := by kernel_rfl
theorem c_sellE6 : Au.SellE 10 0 [⟨0, 5⟩] [⟨4, 0, 17⟩, ⟨3, 0, 12⟩] = 0 := by kernel_rfl
theorem c_prc (p q r : Nat) : (Au.CloA [0] [Au.ListV.mk (at4 p) 1 [4], Au.ListV.mk (at4 q) 1 [9], Au.ListV.mk (at4 r) 1 [6]]).2 = [6] := by kernel_rfl
theorem c_prcE (p q r : Nat) : Au.cloE [0] [Au.ListV.mk (at4 p) 1 [4], Au.ListV.mk (at4 q) 1 [9], Au.ListV.mk (at4 r) 1 [6]] = 0 := by kernel_rfl
theorem c_pay : Ti.PayL [20, 10, 7, 1] [1, 2, 3, 1] 24 = [0, 1, 2, 0] := by kernel_rfl
theorem c_payE : Ti.PayE [20, 10, 7, 1] [1, 2, 3, 1] 24 = 0 := by kernel_rfl
theorem c_shr8 : Pu.ShrL [6, 3, 1] 5 = [4, 1, 0] := by kernel_rfl
theorem c_shrE8 : Pu.ShrE [6, 3, 1] 5 = 0 := by kernel_rfl

theorem k_returned04  (w : World)  : Calls Tryz.prog 51 #[] w (fun e w' => e = .returned (.bool true) ∧ Grow w w') := by
  refine enter_pure (args := []) [] Tryz.func51 rfl (by rw [Tryz.ntmps51]; simp) (by simp) ?_
  refine cj_seq ?_
  refine cj_regionG (gj_step (y_assign rfl) rfl rfl rfl (gj_nil ?_))
  refine ej_th (cj_seq ?_)
  refine cj_regionG ?_
  refine gj_step (y_call Tryz.call60 rfl (fun w hp => by
    have h := Tk.k_Code 1 w
    rw [c_cod1] at h
    exact h)) rfl rfl rfl ?_
  refine gj_step (y_move rfl) rfl rfl rfl (gj_step (y_extract rfl rfl) rfl rfl rfl (gj_step (y_extract rfl rfl) rfl rfl rfl (gj_step (y_assign rfl) rfl rfl rfl (gj_step (y_assign rfl) rfl rfl rfl (?_)))))
  refine gj_nil ?_
  refine ej_th (cj_seq (cj_region ?_))
  refine oj_step (y_build st198 rfl rfl) rfl rfl rfl ?_
  refine oj_step (y_build (cs := [.int .i64 1, .int .i64 0, .int .i64 0]) st198 rfl (by kernel_rfl)) rfl rfl rfl ?_
  refine oj_buildSlice (cs := [.int .i64 0, .int .i64 0, .int .i64 0, .int .i64 1, .int .i64 0, .int .i64 0]) [.int .i64 0, .int .i64 0, .int .i64 0, .int .i64 0, .int .i64 0, .int .i64 0] Tryz.underlying199 Tryz.sizeOf198 Tryz.zeroValue198 rfl rfl (by kernel_rfl) (by kernel_rfl) rfl (fun b16 => ?_)
  refine oj_buildSlice (cs := [.int .i64 1]) [.int .i64 0] Tryz.underlying26 Tryz.sizeOf3 Tryz.zeroValue3 rfl rfl (by kernel_rfl) (by kernel_rfl) rfl (fun b17 => ?_)
  refine oj_step (y_build (cs := [.int .i64 0, .int .i64 1, .int .i64 2, .slice (some ⟨b17, 0, none⟩) 1 1]) st201 rfl (by kernel_rfl)) rfl rfl rfl ?_
  refine oj_buildSlice (cs := [.int .i64 0, .int .i64 1, .int .i64 2, .slice (some ⟨b17, 0, none⟩) 1 1]) [.int .i64 0, .int .i64 0, .int .i64 0, .slice none 0 0] Tryz.underlying202 Tryz.sizeOf201 Tryz.zeroValue201 rfl rfl (by kernel_rfl) (by kernel_rfl) rfl (fun b19 => ?_)
  refine oj_buildSlice (cs := [.int .i64 1, .int .i64 0]) [.int .i64 0, .int .i64 0] Tryz.underlying26 Tryz.sizeOf3 Tryz.zeroValue3 rfl rfl (by kernel_rfl) (by kernel_rfl) rfl (fun b20 => ?_)
  refine oj_step (y_build (cs := [.slice (some ⟨b16, 0, none⟩) 2 2, .slice (some ⟨b19, 0, none⟩) 1 1, .slice (some ⟨b20, 0, none⟩) 2 2]) st204 rfl (by kernel_rfl)) rfl rfl rfl ?_
  refine oj_step (y_call Tryz.call86 rfl (fun w hp => by
    have h := Va.k_Enter (Va.StrV.mk (at4 b16) 2 ([⟨0, 0, 0⟩, ⟨1, 0, 0⟩] : List Vm.RoomV) (at4 b19) 1 [Va.GateV.mk 0 1 2 (at4 b17) 1 [1]] (at4 b20) 2 [1, 0]) 3 w ⟨(hp.rdLit (b := b16) (sz := 3) (enc := Va.encRo) ([⟨0, 0, 0⟩, ⟨1, 0, 0⟩] : List Vm.RoomV) (fun _ => rfl) rfl (by unfold maxLen; simp)), (hp.rdLit (b := b19) (sz := 4) (enc := Va.encGa) [Va.GateV.mk 0 1 2 (at4 b17) 1 [1]] (fun _ => rfl) rfl (by unfold maxLen; simp)), (hp.rdLit (b := b20) (sz := 1) (enc := enInt) [1, 0] (fun _ => rfl) rfl (by unfold maxLen; simp)), fun g hg => by
      rw [List.mem_singleton.1 hg]
      exact (hp.rdLit (b := b17) (sz := 1) (enc := enInt) [1] (fun _ => rfl) rfl (by unfold maxLen; simp))⟩
    rw [c_ent, c_entE] at h
    exact h)) rfl rfl rfl ?_
  refine oj_step (y_move rfl) rfl rfl rfl ?_
  refine oj_step (y_extract rfl rfl) rfl rfl rfl ?_
  refine oj_step (y_extract rfl rfl) rfl rfl rfl ?_
  refine oj_step (y_assign rfl) rfl rfl rfl ?_
  refine oj_step (y_assign rfl) rfl rfl rfl ?_
  refine oj_nil ?_
  refine ej_th (cj_seq (cj_region ?_))
  refine oj_step (y_build (cs := [.int .i64 2, .int .i64 1]) st208 rfl (by kernel_rfl)) rfl rfl rfl ?_
  refine oj_buildSlice (cs := [.int .i64 2, .int .i64 1]) [.int .i64 0, .int .i64 0] Tryz.underlying209 Tryz.sizeOf208 Tryz.zeroValue208 rfl rfl (by kernel_rfl) (by kernel_rfl) rfl (fun b27 => ?_)
  refine oj_buildSlice (cs := [.int .i64 100]) [.int .i64 0] Tryz.underlying26 Tryz.sizeOf3 Tryz.zeroValue3 rfl rfl (by kernel_rfl) (by kernel_rfl) rfl (fun b28 => ?_)
  refine oj_buildSlice (cs := [.int .i64 104]) [.int .i64 0] Tryz.underlying26 Tryz.sizeOf3 Tryz.zeroValue3 rfl rfl (by kernel_rfl) (by kernel_rfl) rfl (fun b29 => ?_)
  refine oj_step (y_call Tryz.call87 rfl (fun w hp => by
    have h := Pl.k_Agree [⟨2, 1⟩] (some ⟨b27, 0, none⟩) 1 [100] [104] (some ⟨b28, 0, none⟩) (some ⟨b29, 0, none⟩) 1 1 w (hp.rdLit (b := b27) (sz := 2) (enc := Pl.encMe) [⟨2, 1⟩] (fun _ => rfl) rfl (by unfold maxLen; simp)) (hp.rdLit (b := b28) (sz := 1) (enc := enInt) [100] (fun _ => rfl) rfl (by unfold maxLen; simp)) (hp.rdLit (b := b29) (sz := 1) (enc := enInt) [104] (fun _ => rfl) rfl (by unfold maxLen; simp))
    rw [c_agr, c_agrE] at h
    exact h)) rfl rfl rfl ?_
  refine oj_step (y_move rfl) rfl rfl rfl ?_
  refine oj_step (y_extract rfl rfl) rfl rfl rfl ?_
  refine oj_step (y_extract rfl rfl) rfl rfl rfl ?_
  refine oj_step (y_assign rfl) rfl rfl rfl ?_
  refine oj_step (y_assign rfl) rfl rfl rfl ?_
  refine oj_nil ?_
  refine ej_th (cj_seq ?_)
  refine cj_regionG ?_
  refine gj_step (y_build (cs := [.int .i64 40, .int .i64 300, .int .i64 5000]) st159 rfl (by kernel_rfl)) rfl rfl rfl (gj_step (y_build (cs := [.int .i64 400, .int .i64 900]) st161 rfl (by kernel_rfl)) rfl rfl rfl (?_))
  refine gj_step (y_call Tryz.call61 rfl (fun w hp => by
    have h := Le.k_Most 40 300 5000 400 900 w
    rw [c_most4, c_mostE4] at h
    exact h)) rfl rfl rfl ?_
  refine gj_step (y_move rfl) rfl rfl rfl (gj_step (y_extract rfl rfl) rfl rfl rfl (gj_step (y_extract rfl rfl) rfl rfl rfl (gj_step (y_assign rfl) rfl rfl rfl (gj_step (y_assign rfl) rfl rfl rfl (?_)))))
  refine gj_nil ?_
  refine ej_th (cj_seq (cj_region ?_))
  refine oj_step (y_move rfl) rfl rfl rfl ?_
  refine oj_step (y_eql rfl rfl) rfl rfl rfl ?_
  refine oj_step (y_move rfl) rfl rfl rfl ?_
  refine oj_yes rfl rfl rfl ?_
  refine oj_step (y_move rfl) rfl rfl rfl ?_
  refine oj_yes rfl rfl rfl ?_
  refine oj_step (y_eql rfl rfl) rfl rfl rfl ?_
  refine oj_step (y_pick rfl rfl rfl) rfl rfl rfl ?_
  refine oj_step (y_move rfl) rfl rfl rfl ?_
  refine oj_yes rfl rfl rfl ?_
  refine oj_step (y_move rfl) rfl rfl rfl ?_
  refine oj_yes rfl rfl rfl ?_
  refine oj_step (y_eql rfl rfl) rfl rfl rfl ?_
  refine oj_step (y_pick rfl rfl rfl) rfl rfl rfl ?_
  refine oj_step (y_move rfl) rfl rfl rfl ?_
  refine oj_yes rfl rfl rfl ?_
  refine oj_step (y_move rfl) rfl rfl rfl ?_
  refine oj_yes rfl rfl rfl ?_
  refine oj_step (y_eql rfl rfl) rfl rfl rfl ?_
  refine oj_step (y_pick rfl rfl rfl) rfl rfl rfl ?_
  refine oj_step (y_move rfl) rfl rfl rfl ?_
  refine oj_yes rfl rfl rfl ?_
  refine oj_step (y_move rfl) rfl rfl rfl ?_
  refine oj_yes rfl rfl rfl ?_
  refine oj_step (y_eqlS rfl rfl) rfl rfl rfl ?_
  refine oj_step (y_pick rfl rfl rfl) rfl rfl rfl ?_
  refine oj_step (y_move rfl) rfl rfl rfl ?_
  refine oj_yes rfl rfl rfl ?_
  refine oj_step (y_move rfl) rfl rfl rfl ?_
  refine oj_yes rfl rfl rfl ?_
  refine oj_step (y_eql rfl rfl) rfl rfl rfl ?_
  refine oj_step (y_pick rfl rfl rfl) rfl rfl rfl ?_
  refine oj_step (y_move rfl) rfl rfl rfl ?_
  refine oj_yes rfl rfl rfl ?_
  refine oj_step (y_move rfl) rfl rfl rfl ?_
  refine oj_step (y_pick rfl rfl rfl) rfl rfl rfl ?_
  refine oj_step (y_move rfl) rfl rfl rfl ?_
  refine oj_yes rfl rfl rfl ?_
  refine oj_step (y_move rfl) rfl rfl rfl ?_
  refine oj_yes rfl rfl rfl ?_
  refine oj_step (y_eql rfl rfl) rfl rfl rfl ?_
  refine oj_step (y_pick rfl rfl rfl) rfl rfl rfl ?_
  refine oj_step (y_assign rfl) rfl rfl rfl ?_
  refine oj_nil ?_
  refine ej_th (cj_ret ?_)
  exact ej_ret1 rfl Tryz.results51 rfl (fun w' hp => ⟨rfl, hp.below⟩)

theorem k_priced06  (w : World)  : Calls Tryz.prog 20 #[] w (fun e w' => e = .returned (.bool true) ∧ Grow w w') := by
  refine enter_pure (args := []) [] Tryz.func20 rfl (by rw [Tryz.ntmps20]; simp) (by simp) ?_
  refine cj_seq ?_
  refine cj_regionG (gj_step (y_assign rfl) rfl rfl rfl (gj_nil ?_))
  refine ej_th (cj_seq (cj_region ?_))
  refine oj_step (y_build (cs := [.int .i64 0, .int .i64 5]) st109 rfl (by kernel_rfl)) rfl rfl rfl ?_
  refine oj_buildSlice (cs := [.int .i64 0, .int .i64 5]) [.int .i64 0, .int .i64 0] Tryz.underlying54 Tryz.sizeOf109 Tryz.zeroValue109 rfl rfl (by kernel_rfl) (by kernel_rfl) rfl (fun b7 => ?_)
  refine oj_step (y_build (cs := [.int .i64 10, .int .i64 0, .slice (some ⟨b7, 0, none⟩) 1 1]) st67 rfl (by kernel_rfl)) rfl rfl rfl ?_
  refine oj_step (y_build (cs := [.int .i64 4, .int .i64 0, .int .i64 17]) st111 rfl (by kernel_rfl)) rfl rfl rfl ?_
  refine oj_step (y_build (cs := [.int .i64 3, .int .i64 0, .int .i64 12]) st111 rfl (by kernel_rfl)) rfl rfl rfl ?_
  refine oj_buildSlice (cs := [.int .i64 4, .int .i64 0, .int .i64 17, .int .i64 3, .int .i64 0, .int .i64 12]) [.int .i64 0, .int .i64 0, .int .i64 0, .int .i64 0, .int .i64 0, .int .i64 0] Tryz.underlying55 Tryz.sizeOf111 Tryz.zeroValue111 rfl rfl (by kernel_rfl) (by kernel_rfl) rfl (fun b11 => ?_)
  refine oj_step (y_call Tryz.call14 rfl (fun w hp => by
    have h := Au.k_Sell 10 0 [⟨0, 5⟩] (some ⟨b7, 0, none⟩) 1 [⟨4, 0, 17⟩, ⟨3, 0, 12⟩] (some ⟨b11, 0, none⟩) 2 w (hp.rdLit (b := b7) (sz := 2) (enc := Au.encRi) [⟨0, 5⟩] (fun _ => rfl) rfl (by unfold maxLen; simp)) (hp.rdLit (b := b11) (sz := 3) (enc := Au.encBi) [⟨4, 0, 17⟩, ⟨3, 0, 12⟩] (fun _ => rfl) rfl (by unfold maxLen; simp))
    rw [c_sell6, c_sellE6] at h
    exact h)) rfl rfl rfl ?_
  refine oj_step (y_move rfl) rfl rfl rfl ?_
  refine oj_step (y_extract rfl rfl) rfl rfl rfl ?_
  refine oj_step (y_extract rfl rfl) rfl rfl rfl ?_
  refine oj_alloc Tryz.zeroValue63 rfl rfl (fun b1 => ?_)
  refine oj_store rfl rfl rfl rfl Tryz.sizeOf63 rfl ?_
  refine oj_step (y_assign rfl) rfl rfl rfl ?_
  refine oj_nil ?_
  refine ej_th (cj_seq (cj_region ?_))
  refine oj_buildSlice (cs := [.int .i64 0]) [.int .i64 0] Tryz.underlying26 Tryz.sizeOf3 Tryz.zeroValue3 rfl rfl (by kernel_rfl) (by kernel_rfl) rfl (fun b16 => ?_)
  refine oj_buildSlice (cs := [.int .i64 4]) [.int .i64 0] Tryz.underlying26 Tryz.sizeOf3 Tryz.zeroValue3 rfl rfl (by kernel_rfl) (by kernel_rfl) rfl (fun b17 => ?_)
  refine oj_buildSlice (cs := [.int .i64 9]) [.int .i64 0] Tryz.underlying26 Tryz.sizeOf3 Tryz.zeroValue3 rfl rfl (by kernel_rfl) (by kernel_rfl) rfl (fun b18 => ?_)
  refine oj_buildSlice (cs := [.int .i64 6]) [.int .i64 0] Tryz.underlying26 Tryz.sizeOf3 Tryz.zeroValue3 rfl rfl (by kernel_rfl) (by kernel_rfl) rfl (fun b19 => ?_)
  refine oj_buildSlice (cs := [.slice (some ⟨b17, 0, none⟩) 1 1, .slice (some ⟨b18, 0, none⟩) 1 1, .slice (some ⟨b19, 0, none⟩) 1 1]) [.slice none 0 0, .slice none 0 0, .slice none 0 0] Tryz.underlying134 Tryz.sizeOf26 Tryz.zeroValue26 rfl rfl (by kernel_rfl) (by kernel_rfl) rfl (fun b20 => ?_)
  refine oj_step (y_build (cs := [.slice (some ⟨b16, 0, none⟩) 1 1, .slice (some ⟨b20, 0, none⟩) 3 3]) st136 rfl (by kernel_rfl)) rfl rfl rfl ?_
  refine oj_callS (fun A c => .tuple #[.slice A ([6] : List Int).length c, .int .i64 0]) 1 enInt ([6] : List Int) Tryz.call50 rfl (fun w hp => by
    have h := Au.k_Prices [0] (some ⟨b16, 0, none⟩) 1 [Au.ListV.mk (at4 b17) 1 [4], Au.ListV.mk (at4 b18) 1 [9], Au.ListV.mk (at4 b19) 1 [6]] (some ⟨b20, 0, none⟩) 3 w (hp.rdLit (b := b16) (sz := 1) (enc := enInt) [0] (fun _ => rfl) rfl (by unfold maxLen; simp)) (hp.rdLit (b := b20) (sz := 1) (enc := Au.encLs) [Au.ListV.mk (at4 b17) 1 [4], Au.ListV.mk (at4 b18) 1 [9], Au.ListV.mk (at4 b19) 1 [6]] (fun _ => rfl) rfl (by unfold maxLen; simp)) (fun r hr => by
      simp only [List.mem_cons, List.mem_nil_iff, or_false] at hr
      rcases hr with rfl | rfl | rfl
      · exact (hp.rdLit (b := b17) (sz := 1) (enc := enInt) [4] (fun _ => rfl) rfl (by unfold maxLen; simp))
      · exact (hp.rdLit (b := b18) (sz := 1) (enc := enInt) [9] (fun _ => rfl) rfl (by unfold maxLen; simp))
      · exact (hp.rdLit (b := b19) (sz := 1) (enc := enInt) [6] (fun _ => rfl) rfl (by unfold maxLen; simp)))
    rw [c_prc, c_prcE] at h
    exact h) rfl (fun A22 c22 fp22 hfp22 => ?_)
  refine oj_step (y_move rfl) rfl rfl rfl ?_
  refine oj_step (y_extract rfl rfl) rfl rfl rfl ?_
  refine oj_step (y_extract rfl rfl) rfl rfl rfl ?_
  refine oj_step (y_assign rfl) rfl rfl rfl ?_
  refine oj_step (y_assign rfl) rfl rfl rfl ?_
  refine oj_nil ?_
  refine ej_th (cj_seq (cj_region ?_))
  refine oj_step (y_move rfl) rfl rfl rfl ?_
  refine oj_step (y_eql rfl rfl) rfl rfl rfl ?_
  refine oj_step (y_move rfl) rfl rfl rfl ?_
  refine oj_yes rfl rfl rfl ?_
  refine oj_step (y_move rfl) rfl rfl rfl ?_
  refine oj_yes rfl rfl rfl ?_
  refine oj_step (y_eql rfl rfl) rfl rfl rfl ?_
  refine oj_step (y_pick rfl rfl rfl) rfl rfl rfl ?_
  refine oj_step (y_move rfl) rfl rfl rfl ?_
  refine oj_yes rfl rfl rfl ?_
  refine oj_step (y_loadN Tryz.isAgg63 Tryz.sizeOf63 rfl) rfl rfl rfl ?_
  refine oj_yes rfl rfl rfl ?_
  refine oj_step (y_build (cs := [.int .i64 4, .int .i64 15]) st63 rfl (by kernel_rfl)) rfl rfl rfl ?_
  refine oj_yes rfl rfl rfl ?_
  refine oj_step (y_bin rfl rfl (fun x y w => eq63 _ _ _ _ x y w)) rfl rfl rfl ?_
  refine oj_step (y_pick rfl rfl rfl) rfl rfl rfl ?_
  refine oj_step (y_move rfl) rfl rfl rfl ?_
  refine oj_yes rfl rfl rfl ?_
  refine oj_step (y_move rfl) rfl rfl rfl ?_
  refine oj_yes rfl rfl rfl ?_
  refine oj_buildSlice (cs := [.int .i64 6]) [.int .i64 0] Tryz.underlying26 Tryz.sizeOf3 Tryz.zeroValue3 rfl rfl (by kernel_rfl) (by kernel_rfl) rfl (fun b38 => ?_)
  refine oj_yes rfl rfl rfl ?_
  refine oj_step (y_call Tryz.call16 rfl (fun w hp => k_Same [6] [6] A22 (some ⟨b38, 0, none⟩) c22 1 w hp.rd (hp.rdLit (b := b38) (sz := 1) (enc := enInt) [6] (fun _ => rfl) rfl (by unfold maxLen; simp)))) rfl rfl rfl ?_
  refine oj_step (y_pick rfl rfl rfl) rfl rfl rfl ?_
  refine oj_step (y_move rfl) rfl rfl rfl ?_
  refine oj_yes rfl rfl rfl ?_
  refine oj_step (y_call Tryz.call51 rfl (fun w hp => k_returned04 w)) rfl rfl rfl ?_
  refine oj_step (y_pick rfl rfl rfl) rfl rfl rfl ?_
  refine oj_step (y_assign rfl) rfl rfl rfl ?_
  refine oj_nil ?_
  refine ej_th (cj_ret ?_)
  exact ej_ret1 rfl Tryz.results20 rfl (fun w' hp => ⟨rfl, hp.below⟩)

theorem k_paid08  (w : World)  : Calls Tryz.prog 9 #[] w (fun e w' => e = .returned (.bool true) ∧ Grow w w') := by
  refine enter_pure (args := []) [] Tryz.func9 rfl (by rw [Tryz.ntmps9]; simp) (by simp) ?_
  refine cj_seq ?_
  refine cj_regionG (gj_step (y_assign rfl) rfl rfl rfl (gj_nil ?_))
  refine ej_th (cj_seq (cj_region ?_))
  refine oj_buildSlice (cs := [.int .i64 20, .int .i64 10, .int .i64 7, .int .i64 1]) [.int .i64 0, .int .i64 0, .int .i64 0, .int .i64 0] Tryz.underlying26 Tryz.sizeOf3 Tryz.zeroValue3 rfl rfl (by kernel_rfl) (by kernel_rfl) rfl (fun b6 => ?_)
  refine oj_buildSlice (cs := [.int .i64 1, .int .i64 2, .int .i64 3, .int .i64 1]) [.int .i64 0, .int .i64 0, .int .i64 0, .int .i64 0] Tryz.underlying26 Tryz.sizeOf3 Tryz.zeroValue3 rfl rfl (by kernel_rfl) (by kernel_rfl) rfl (fun b7 => ?_)
  refine oj_step (y_build (cs := [.slice (some ⟨b6, 0, none⟩) 4 4, .slice (some ⟨b7, 0, none⟩) 4 4]) st92 rfl (by kernel_rfl)) rfl rfl rfl ?_
  refine oj_callS (fun A c => .tuple #[.slice A ([0, 1, 2, 0] : List Int).length c, .int .i64 0]) 1 enInt ([0, 1, 2, 0] : List Int) Tryz.call18 rfl (fun w hp => by
    have h := Ti.k_Pay [20, 10, 7, 1] [1, 2, 3, 1] (some ⟨b6, 0, none⟩) (some ⟨b7, 0, none⟩) 4 4 24 w (hp.rdLit (b := b6) (sz := 1) (enc := enInt) [20, 10, 7, 1] (fun _ => rfl) rfl (by unfold maxLen; simp)) (hp.rdLit (b := b7) (sz := 1) (enc := enInt) [1, 2, 3, 1] (fun _ => rfl) rfl (by unfold maxLen; simp))
    rw [c_pay, c_payE] at h
    exact h) rfl (fun A9 c9 fp9 hfp9 => ?_)
  refine oj_step (y_move rfl) rfl rfl rfl ?_
  refine oj_step (y_extract rfl rfl) rfl rfl rfl ?_
  refine oj_step (y_extract rfl rfl) rfl rfl rfl ?_
  refine oj_step (y_assign rfl) rfl rfl rfl ?_
  refine oj_step (y_assign rfl) rfl rfl rfl ?_
  refine oj_nil ?_
  refine ej_th (cj_seq (cj_region ?_))
  refine oj_buildSlice (cs := [.int .i64 6, .int .i64 3, .int .i64 1]) [.int .i64 0, .int .i64 0, .int .i64 0] Tryz.underlying26 Tryz.sizeOf3 Tryz.zeroValue3 rfl rfl (by kernel_rfl) (by kernel_rfl) rfl (fun b13 => ?_)
  refine oj_callS (fun A c => .tuple #[.slice A ([4, 1, 0] : List Int).length c, .int .i64 0]) 1 enInt ([4, 1, 0] : List Int) Tryz.call19 rfl (fun w hp => by
    have h := Pu.k_Share [6, 3, 1] (some ⟨b13, 0, none⟩) 3 5 w (hp.rdLit (b := b13) (sz := 1) (enc := enInt) [6, 3, 1] (fun _ => rfl) rfl (by unfold maxLen; simp))
    rw [c_shr8, c_shrE8] at h
    exact h) rfl (fun A14 c14 fp14 hfp14 => ?_)
  refine oj_step (y_move rfl) rfl rfl rfl ?_
  refine oj_step (y_extract rfl rfl) rfl rfl rfl ?_
  refine oj_step (y_extract rfl rfl) rfl rfl rfl ?_
  refine oj_step (y_assign rfl) rfl rfl rfl ?_
  refine oj_step (y_assign rfl) rfl rfl rfl ?_
  refine oj_nil ?_
  refine ej_th (cj_seq (cj_region ?_))
  refine oj_step (y_move rfl) rfl rfl rfl ?_
  refine oj_step (y_eql rfl rfl) rfl rfl rfl ?_
  refine oj_step (y_move rfl) rfl rfl rfl ?_
  refine oj_yes rfl rfl rfl ?_
  refine oj_step (y_move rfl) rfl rfl rfl ?_
  refine oj_yes rfl rfl rfl ?_
  refine oj_step (y_eql rfl rfl) rfl rfl rfl ?_
  refine oj_step (y_pick rfl rfl rfl) rfl rfl rfl ?_
  refine oj_step (y_move rfl) rfl rfl rfl ?_
  refine oj_yes rfl rfl rfl ?_
  refine oj_step (y_move rfl) rfl rfl rfl ?_
  refine oj_yes rfl rfl rfl ?_
  refine oj_buildSlice (cs := [.int .i64 0, .int .i64 1, .int .i64 2, .int .i64 0]) [.int .i64 0, .int .i64 0, .int .i64 0, .int .i64 0] Tryz.underlying26 Tryz.sizeOf3 Tryz.zeroValue3 rfl rfl (by kernel_rfl) (by kernel_rfl) rfl (fun b25 => ?_)
  refine oj_yes rfl rfl rfl ?_
  refine oj_step (y_call Tryz.call16 rfl (fun w hp => k_Same [0, 1, 2, 0] [0, 1, 2, 0] A9 (some ⟨b25, 0, none⟩) c9 4 w hp.rd (hp.rdLit (b := b25) (sz := 1) (enc := enInt) [0, 1, 2, 0] (fun _ => rfl) rfl (by unfold maxLen; simp)))) rfl rfl rfl ?_
  refine oj_step (y_pick rfl rfl rfl) rfl rfl rfl ?_
  refine oj_step (y_move rfl) rfl rfl rfl ?_
  refine oj_yes rfl rfl rfl ?_
  refine oj_step (y_move rfl) rfl rfl rfl ?_
  refine oj_yes rfl rfl rfl ?_
  refine oj_buildSlice (cs := [.int .i64 4, .int .i64 1, .int .i64 0]) [.int .i64 0, .int .i64 0, .int .i64 0] Tryz.underlying26 Tryz.sizeOf3 Tryz.zeroValue3 rfl rfl (by kernel_rfl) (by kernel_rfl) rfl (fun b30 => ?_)
  refine oj_yes rfl rfl rfl ?_
  refine oj_step (y_call Tryz.call16 rfl (fun w hp => k_Same [4, 1, 0] [4, 1, 0] A14 (some ⟨b30, 0, none⟩) c14 3 w hp.rd (hp.rdLit (b := b30) (sz := 1) (enc := enInt) [4, 1, 0] (fun _ => rfl) rfl (by unfold maxLen; simp)))) rfl rfl rfl ?_
  refine oj_step (y_pick rfl rfl rfl) rfl rfl rfl ?_
  refine oj_step (y_move rfl) rfl rfl rfl ?_
  refine oj_yes rfl rfl rfl ?_
  refine oj_step (y_call Tryz.call20 rfl (fun w hp => k_priced06 w)) rfl rfl rfl ?_
  refine oj_step (y_pick rfl rfl rfl) rfl rfl rfl ?_
  refine oj_step (y_assign rfl) rfl rfl rfl ?_
  refine oj_nil ?_
  refine ej_th (cj_ret ?_)
  exact ej_ret1 rfl Tryz.results9 rfl (fun w' hp => ⟨rfl, hp.below⟩)

end Go.Proofs.YtppfniekcgnmjaaGreatDoor.To
namespace Go.Proofs.YtppfniekcgnmjaaGreatDoor.Ln
open Go.Sx Go.RowKit
set_option maxRecDepth 20000
theorem el36 : ElemIs Tryz.prog 36 42 5 40 := ⟨⟨_, (.agg #[.int .i64 0, .int .i64 0, .int .i64 0, .int .i64 0, .bool false]), Tryz.underlying36, Tryz.type42, by kernel_rfl, by kernel_rfl, by kernel_rfl, by kernel_rfl, by decide⟩⟩
theorem fa159_0 : FieldIs Tryz.prog 159 0 0 1 false := ⟨⟨_, _, Tryz.underlying159, rfl, rfl, Tryz.sizeOf3, Tryz.isAgg3, by decide⟩⟩
theorem fa159_1 : FieldIs Tryz.prog 159 1 1 1 false := ⟨⟨_, _, Tryz.underlying159, rfl, rfl, Tryz.sizeOf3, Tryz.isAgg3, by decide⟩⟩
theorem fa159_2 : FieldIs Tryz.prog 159 2 2 1 false := ⟨⟨_, _, Tryz.underlying159, rfl, rfl, Tryz.sizeOf3, Tryz.isAgg3, by decide⟩⟩
theorem fa161_0 : FieldIs Tryz.prog 161 0 0 1 false := ⟨⟨_, _, Tryz.underlying161, rfl, rfl, Tryz.sizeOf3, Tryz.isAgg3, by decide⟩⟩
theorem fa161_1 : FieldIs Tryz.prog 161 1 1 1 false := ⟨⟨_, _, Tryz.underlying161, rfl, rfl, Tryz.sizeOf3, Tryz.isAgg3, by decide⟩⟩
theorem fa23_0 : FieldIs Tryz.prog 23 0 0 1 false := ⟨⟨_, _, Tryz.underlying23, rfl, rfl, Tryz.sizeOf3, Tryz.isAgg3, by decide⟩⟩
theorem fa23_1 : FieldIs Tryz.prog 23 1 1 1 false := ⟨⟨_, _, Tryz.underlying23, rfl, rfl, Tryz.sizeOf3, Tryz.isAgg3, by decide⟩⟩
theorem fa25_0 : FieldIs Tryz.prog 25 0 0 1 false := ⟨⟨_, _, Tryz.underlying25, rfl, rfl, Tryz.sizeOf3, Tryz.isAgg3, by decide⟩⟩
theorem fa25_1 : FieldIs Tryz.prog 25 1 1 1 false := ⟨⟨_, _, Tryz.underlying25, rfl, rfl, Tryz.sizeOf3, Tryz.isAgg3, by decide⟩⟩
theorem fa25_2 : FieldIs Tryz.prog 25 2 2 1 false := ⟨⟨_, _, Tryz.underlying25, rfl, rfl, Tryz.sizeOf3, Tryz.isAgg3, by decide⟩⟩
theorem fa25_3 : FieldIs Tryz.prog 25 3 3 1 false := ⟨⟨_, _, Tryz.underlying25, rfl, rfl, Tryz.sizeOf3, Tryz.isAgg3, by decide⟩⟩
theorem fa25_4 : FieldIs Tryz.prog 25 4 4 1 false := ⟨⟨_, _, Tryz.underlying25, rfl, rfl, Tryz.sizeOf3, Tryz.isAgg3, by decide⟩⟩
theorem fa28_0 : FieldIs Tryz.prog 28 0 0 2 true := ⟨⟨_, _, Tryz.underlying28, rfl, rfl, Tryz.sizeOf23, Tryz.isAgg23, by decide⟩⟩
theorem fa28_1 : FieldIs Tryz.prog 28 1 2 5 true := ⟨⟨_, _, Tryz.underlying28, rfl, rfl, Tryz.sizeOf25, Tryz.isAgg25, by decide⟩⟩
theorem fa28_2 : FieldIs Tryz.prog 28 2 7 1 false := ⟨⟨_, _, Tryz.underlying28, rfl, rfl, Tryz.sizeOf26, Tryz.isAgg26, by decide⟩⟩
theorem fa28_3 : FieldIs Tryz.prog 28 3 8 1 false := ⟨⟨_, _, Tryz.underlying28, rfl, rfl, Tryz.sizeOf3, Tryz.isAgg3, by decide⟩⟩
theorem fa28_4 : FieldIs Tryz.prog 28 4 9 1 false := ⟨⟨_, _, Tryz.underlying28, rfl, rfl, Tryz.sizeOf3, Tryz.isAgg3, by decide⟩⟩
theorem fa42_0 : FieldIs Tryz.prog 42 0 0 1 false := ⟨⟨_, _, Tryz.underlying42, rfl, rfl, Tryz.sizeOf3, Tryz.isAgg3, by decide⟩⟩
theorem fa42_1 : FieldIs Tryz.prog 42 1 1 1 false := ⟨⟨_, _, Tryz.underlying42, rfl, rfl, Tryz.sizeOf3, Tryz.isAgg3, by decide⟩⟩
theorem fa42_2 : FieldIs Tryz.prog 42 2 2 1 false := ⟨⟨_, _, Tryz.underlying42, rfl, rfl, Tryz.sizeOf3, Tryz.isAgg3, by decide⟩⟩
theorem fa42_3 : FieldIs Tryz.prog 42 3 3 1 false := ⟨⟨_, _, Tryz.underlying42, rfl, rfl, Tryz.sizeOf3, Tryz.isAgg3, by decide⟩⟩
theorem fa42_4 : FieldIs Tryz.prog 42 4 4 1 false := ⟨⟨_, _, Tryz.underlying42, rfl, rfl, Tryz.sizeOf4, Tryz.isAgg4, by decide⟩⟩
theorem fa82_0 : FieldIs Tryz.prog 82 0 0 1 false := ⟨⟨_, _, Tryz.underlying82, rfl, rfl, Tryz.sizeOf3, Tryz.isAgg3, by decide⟩⟩
theorem fa82_1 : FieldIs Tryz.prog 82 1 1 1 false := ⟨⟨_, _, Tryz.underlying82, rfl, rfl, Tryz.sizeOf3, Tryz.isAgg3, by decide⟩⟩
theorem fa82_2 : FieldIs Tryz.prog 82 2 2 1 false := ⟨⟨_, _, Tryz.underlying82, rfl, rfl, Tryz.sizeOf3, Tryz.isAgg3, by decide⟩⟩
theorem fa82_3 : FieldIs Tryz.prog 82 3 3 1 false := ⟨⟨_, _, Tryz.underlying82, rfl, rfl, Tryz.sizeOf3, Tryz.isAgg3, by decide⟩⟩
theorem fa84_0 : FieldIs Tryz.prog 84 0 0 5 true := ⟨⟨_, _, Tryz.underlying84, rfl, rfl, Tryz.sizeOf42, Tryz.isAgg42, by decide⟩⟩
theorem fa84_1 : FieldIs Tryz.prog 84 1 5 4 true := ⟨⟨_, _, Tryz.underlying84, rfl, rfl, Tryz.sizeOf82, Tryz.isAgg82, by decide⟩⟩
theorem fa84_2 : FieldIs Tryz.prog 84 2 9 10 true := ⟨⟨_, _, Tryz.underlying84, rfl, rfl, Tryz.sizeOf28, Tryz.isAgg28, by decide⟩⟩
theorem fa84_3 : FieldIs Tryz.prog 84 3 19 1 false := ⟨⟨_, _, Tryz.underlying84, rfl, rfl, Tryz.sizeOf3, Tryz.isAgg3, by decide⟩⟩
theorem fa84_4 : FieldIs Tryz.prog 84 4 20 1 false := ⟨⟨_, _, Tryz.underlying84, rfl, rfl, Tryz.sizeOf3, Tryz.isAgg3, by decide⟩⟩
theorem fa88_0 : FieldIs Tryz.prog 88 0 0 1 false := ⟨⟨_, _, Tryz.underlying88, rfl, rfl, Tryz.sizeOf3, Tryz.isAgg3, by decide⟩⟩
theorem fa88_1 : FieldIs Tryz.prog 88 1 1 1 false := ⟨⟨_, _, Tryz.underlying88, rfl, rfl, Tryz.sizeOf3, Tryz.isAgg3, by decide⟩⟩
theorem fa88_2 : FieldIs Tryz.prog 88 2 2 1 false := ⟨⟨_, _, Tryz.underlying88, rfl, rfl, Tryz.sizeOf3, Tryz.isAgg3, by decide⟩⟩
theorem ne82 (a0 b0 : Int) (a1 b1 : Int) (a2 b2 : Int) (a3 b3 : Int) (x y : Operand) (w : World) : (do eqGuard .neq 82 x y (.agg #[.int .i64 a0, .int .i64 a1, .int .i64 a2, .int .i64 a3]) (.agg #[.int .i64 b0, .int .i64 b1, .int .i64 b2, .int .i64 b3]); binOp .neq 82 (.agg #[.int .i64 a0, .int .i64 a1, .int .i64 a2, .int .i64 a3]) (.agg #[.int .i64 b0, .int .i64 b1, .int .i64 b2, .int .i64 b3]) : Sem Value).run Tryz.prog w = .ok (.bool (!((a0 == b0) && (a1 == b1) && (a2 == b2) && (a3 == b3)))) w := by
  simp [go_sem, Tryz.eqGuardType82, Tryz.stoodInHeld82, Tryz.underlying82, Tryz.underlying3]
  try ((repeat' split) <;> simp_all)
theorem st240 : StructIs Tryz.prog 240 [] [] := ⟨⟨_, Tryz.underlying240, fun w => by simp [], Tryz.zeroValue240⟩⟩
theorem st241 : StructIs Tryz.prog 241 [] [] := ⟨⟨_, Tryz.underlying241, fun w => by simp [], Tryz.zeroValue241⟩⟩
theorem st242 : StructIs Tryz.prog 242 [] [] := ⟨⟨_, Tryz.underlying242, fun w => by simp [], Tryz.zeroValue242⟩⟩
theorem st243 : StructIs Tryz.prog 243 [] [] := ⟨⟨_, Tryz.underlying243, fun w => by simp [], Tryz.zeroValue243⟩⟩
theorem st42 : StructIs Tryz.prog 42 [(0, 1), (1, 1), (2, 1), (3, 1), (4, 1)] [.int .i64 0, .int .i64 0, .int .i64 0, .int .i64 0, .bool false] := ⟨⟨_, Tryz.underlying42, fun w => by simp [Tryz.sizeOf3, Tryz.sizeOf4], Tryz.zeroValue42⟩⟩
theorem st84 : StructIs Tryz.prog 84 [(0, 5), (5, 4), (9, 10), (19, 1), (20, 1)] [.int .i64 0, .int .i64 0, .int .i64 0, .int .i64 0, .bool false, .int .i64 0, .int .i64 0, .int .i64 0, .int .i64 0, .int .i64 0, .int .i64 0, .int .i64 0, .int .i64 0, .int .i64 0, .int .i64 0, .int .i64 0, .slice none 0 0, .int .i64 0, .int .i64 0, .int .i64 0, .int .i64 0] := ⟨⟨_, Tryz.underlying84, fun w => by simp [Tryz.sizeOf28, Tryz.sizeOf3, Tryz.sizeOf42, Tryz.sizeOf82], Tryz.zeroValue84⟩⟩
end Go.Proofs.YtppfniekcgnmjaaGreatDoor.Ln
namespace Go.Proofs.YtppfniekcgnmjaaGreatDoor.Ln
open Go.Sx Go.RowKit
set_option maxRecDepth 20000
theorem k_From (lo n hi : Int) (w : World)  : Calls Tryz.prog 8 #[.int .i64 lo, .int .i64 n, .int .i64 hi] w (fun e w' => e = .returned (.bool (decide (lo ≤ n) && decide (n ≤ hi))) ∧ Grow w w') := by
  refine enter_pure (args := [.int .i64 lo, .int .i64 n, .int .i64 hi]) [] Tryz.func8 rfl (by rw [Tryz.ntmps8]; simp) (by simp) ?_
  refine cj_seq ?_
  refine cj_regionG (gj_step (y_assign rfl) rfl rfl rfl (gj_nil ?_))
  refine ej_th (cj_seq ?_)
  refine cj_regionG (gj_step (y_move rfl) rfl rfl rfl (gj_step (y_move rfl) rfl rfl rfl (gj_step (y_leq rfl rfl) rfl rfl rfl (gj_step (y_move rfl) rfl rfl rfl (gj_g 3 10 13 rfl rfl rfl rfl (fun hg10 => gj_yes rfl rfl rfl (y_move rfl) rfl rfl (gj_yes rfl rfl rfl (y_move rfl) rfl rfl (gj_yes rfl rfl rfl (y_leq rfl rfl) rfl rfl (gj_nil rfl)))) (gj_step (y_and rfl rfl rfl) rfl rfl rfl (gj_step (y_assign rfl) rfl rfl rfl (gj_nil ?_))))))))
  refine ej_th (cj_ret ?_)
  exact ej_ret1 rfl Tryz.results8 rfl (fun w' hp => ⟨rfl, hp.below⟩)

theorem k_within (n lo hi : Int) (w : World)  : Calls Tryz.prog 56 #[.int .i64 n, .int .i64 lo, .int .i64 hi] w (fun e w' => e = .returned (.bool (decide (lo ≤ n) && decide (n ≤ hi))) ∧ Grow w w') := by
  refine enter_pure (args := [.int .i64 n, .int .i64 lo, .int .i64 hi]) [] Tryz.func56 rfl (by rw [Tryz.ntmps56]; simp) (by simp) ?_
  refine cj_seq ?_
  refine cj_regionG (gj_step (y_assign rfl) rfl rfl rfl (gj_nil ?_))
  refine ej_th (cj_seq ?_)
  refine cj_regionG (gj_step (y_move rfl) rfl rfl rfl (gj_step (y_move rfl) rfl rfl rfl (gj_step (y_geq rfl rfl) rfl rfl rfl (gj_step (y_move rfl) rfl rfl rfl (gj_g 3 10 13 rfl rfl rfl rfl (fun hg10 => gj_yes rfl rfl rfl (y_move rfl) rfl rfl (gj_yes rfl rfl rfl (y_move rfl) rfl rfl (gj_yes rfl rfl rfl (y_leq rfl rfl) rfl rfl (gj_nil rfl)))) (gj_step (y_and rfl rfl rfl) rfl rfl rfl (gj_step (y_assign rfl) rfl rfl rfl (gj_nil ?_))))))))
  refine ej_th (cj_ret ?_)
  exact ej_ret1 rfl Tryz.results56 rfl (fun w' hp => ⟨rfl, hp.below⟩)

theorem k_day (n : Int) (w : World)  : Calls Tryz.prog 79 #[.int .i64 n] w (fun e w' => e = .returned (.bool (decide (0 ≤ n) && decide (n ≤ 36500))) ∧ Grow w w') := by
  refine enter_pure (args := [.int .i64 n]) [] Tryz.func79 rfl (by rw [Tryz.ntmps79]; simp) (by simp) ?_
  refine cj_seq ?_
  refine cj_regionG (gj_step (y_assign rfl) rfl rfl rfl (gj_nil ?_))
  refine ej_th (cj_seq ?_)
  refine cj_regionG ?_
  refine gj_step (y_move rfl) rfl rfl rfl (?_)
  refine gj_step (y_call Tryz.call56 rfl (fun w hp => k_within _ _ _ w)) rfl rfl rfl ?_
  refine gj_step (y_assign rfl) rfl rfl rfl (?_)
  refine gj_nil ?_
  refine ej_th (cj_ret ?_)
  exact ej_ret1 rfl Tryz.results79 rfl (fun w' hp => ⟨rfl, hp.below⟩)

theorem k_span (lo hi most : Int) (w : World)  : Calls Tryz.prog 103 #[.agg #[.int .i64 lo, .int .i64 hi], .int .i64 most] w (fun e w' => e = .returned (.bool (decide (0 ≤ lo) && decide (lo ≤ hi) && decide (hi ≤ most))) ∧ Grow w w') := by
  refine enter_pure (args := [.agg #[.int .i64 lo, .int .i64 hi], .int .i64 most]) [] Tryz.func103 rfl (by rw [Tryz.ntmps103]; simp) (by simp) ?_
  refine cj_seq (cj_region ?_)
  refine oj_box rfl rfl rfl (fun b2 => ?_)
  refine oj_step (y_assign rfl) rfl rfl rfl ?_
  refine oj_nil ?_
  refine ej_th (cj_seq ?_)
  refine cj_regionG (gj_step (y_fa0 fa161_0 rfl) rfl rfl rfl (gj_step (y_load1 Tryz.isAgg3 rfl rfl) rfl rfl rfl (gj_step (y_geq rfl rfl) rfl rfl rfl (gj_step (y_move rfl) rfl rfl rfl (gj_g 5 8 13 rfl rfl rfl rfl (fun hg8 => gj_yes rfl rfl rfl (y_fa0 fa161_0 rfl) rfl rfl (gj_yes rfl rfl rfl (y_load1 Tryz.isAgg3 rfl rfl) rfl rfl (gj_yes rfl rfl rfl (y_fa fa161_1 rfl) rfl rfl (gj_yes rfl rfl rfl (y_load1 Tryz.isAgg3 rfl rfl) rfl rfl (gj_yes rfl rfl rfl (y_leq rfl rfl) rfl rfl (gj_nil rfl)))))) (gj_step (y_and rfl rfl rfl) rfl rfl rfl (gj_step (y_move rfl) rfl rfl rfl (gj_g 4 15 19 rfl rfl rfl rfl (fun hg15 => gj_yes rfl rfl rfl (y_fa fa161_1 rfl) rfl rfl (gj_yes rfl rfl rfl (y_load1 Tryz.isAgg3 rfl rfl) rfl rfl (gj_yes rfl rfl rfl (y_move rfl) rfl rfl (gj_yes rfl rfl rfl (y_leq rfl rfl) rfl rfl (gj_nil rfl))))) (gj_step (y_and rfl rfl rfl) rfl rfl rfl (gj_step (y_assign rfl) rfl rfl rfl (gj_nil ?_)))))))))))
  refine ej_th (cj_ret ?_)
  exact ej_ret1 rfl Tryz.results103 rfl (fun w' hp => ⟨rfl, hp.below⟩)

end Go.Proofs.YtppfniekcgnmjaaGreatDoor.Ln
namespace Go.Proofs.YtppfniekcgnmjaaGreatDoor.Ln
open Go.Sx Go.RowKit
set_option maxRecDepth 20000
end Go.Proofs.YtppfniekcgnmjaaGreatDoor.Ln
namespace Go.Proofs.YtppfniekcgnmjaaGreatDoor.Ln
open Go.Sx Go.RowKit
set_option maxRecDepth 20000
theorem k_Ring (n m : Int) (w : World) (hm : m ≤ 4611686018427387904) : Calls Tryz.prog 5 #[.int .i64 n, .int .i64 m] w (fun e w' => e = .returned (.int .i64 (ringI n m)) ∧ Grow w w') := by
  refine enter_pure (args := [.int .i64 n, .int .i64 m]) [] Tryz.func5 rfl (by rw [Tryz.ntmps5]; simp) (by simp) ?_
  refine cj_seq ?_
  refine cj_regionG (gj_step (y_assign rfl) rfl rfl rfl (gj_nil ?_))
  refine ej_th (cj_seq (cj_seq ?_))
  refine cj_regionG (gj_step (y_move rfl) rfl rfl rfl (gj_step (y_leq rfl rfl) rfl rfl rfl (gj_nil ?_)))
  refine ej_th ?_
  refine cj_cond rfl (fun h6 => ?_) (fun h6 => ?_)
  · have h6b := h6
    try simp only [sxb] at h6
    refine cj_seq ?_
    refine cj_regionG (gj_step (y_assign rfl) rfl rfl rfl (gj_nil ?_))
    refine ej_th (cj_ret (ej_then_ret ?_))
    refine ej_ret1 rfl Tryz.results5 rfl (fun w' hp => ⟨?_, hp.below⟩)
    rw [ringI, if_pos h6]
  · have h6b := h6
    try simp only [sxb] at h6
    refine cj_skip (ej_th (cj_seq ?_))
    refine cj_regionG (gj_step (y_move rfl) rfl rfl rfl (gj_step (y_move rfl) rfl rfl rfl (gj_step (y_remw rfl rfl (by omega)) rfl rfl rfl (gj_step (y_move rfl) rfl rfl rfl (gj_step (y_add rfl rfl (by have h1 := Int.tmod_lt_of_pos n (show 0 < m by omega); have h2 := Int.lt_tmod_of_pos n (show 0 < m by omega); omega)) rfl rfl rfl (gj_step (y_move rfl) rfl rfl rfl (gj_step (y_remw rfl rfl (by omega)) rfl rfl rfl (gj_step (y_assign rfl) rfl rfl rfl (gj_nil ?_)))))))))
    refine ej_th (cj_ret ?_)
    refine ej_ret1 rfl Tryz.results5 rfl (fun w' hp => ⟨?_, hp.below⟩)
    rw [ringI, if_neg (by omega)]

theorem k_Same (xs ys : List Int) (A B : Option Addr) (c c2 : Nat) (w : World) (hx : Rd w 1 enInt A xs) (hy : Rd w 1 enInt B ys) : Calls Tryz.prog 16 #[.slice A xs.length c, .slice B ys.length c2] w (fun e w' => e = .returned (.bool (decide (xs = ys))) ∧ Grow w w') := by
  have hlen := hx.len
  have hlen2 := hy.len
  refine enter_pure (args := [.slice A xs.length c, .slice B ys.length c2]) [sl (fun b => b < w.heap.size) 1 enInt A xs, sl (fun b => b < w.heap.size) 1 enInt B ys] Tryz.func16 rfl (by rw [Tryz.ntmps16]; simp) (fun g hg => by simp at hg; rcases hg with rfl | rfl; exact ⟨hx, fun _ h => h⟩; exact ⟨hy, fun _ h => h⟩) ?_
  refine cj_seq ?_
  refine cj_regionG (gj_step (y_assign rfl) rfl rfl rfl (gj_nil ?_))
  refine ej_th (cj_seq ?_)
  refine cj_regionG (gj_step (y_move rfl) rfl rfl rfl (gj_step (y_lenA Tryz.underlying26 rfl) rfl rfl rfl (gj_step (y_move rfl) rfl rfl rfl (gj_step (y_lenA Tryz.underlying26 rfl) rfl rfl rfl (gj_step (y_eql rfl rfl) rfl rfl rfl (gj_step (y_assign rfl) rfl rfl rfl (gj_nil ?_)))))))
  refine ej_th (cj_seq (cj_seq ?_))
  refine cj_regionG (gj_step (y_assign rfl) rfl rfl rfl (gj_nil ?_))
  refine ej_th (cj_block ?_)
  refine cj_lpc (X := Nat × Bool) (fun ⟨k, ok⟩ => k ≤ xs.length ∧ ok = decide (xs.length = ys.length ∧ xs.take k = ys.take k)) (fun ⟨k, ok⟩ => [(0, .slice A xs.length c), (1, .slice B ys.length c2), (5, .bool ok), (6, .int .i64 k)]) (fun ⟨k, ok⟩ => xs.length - k) (0, decide ((xs.length : Int) = ys.length)) (⟨Nat.zero_le _, by simp [Int.ofNat_inj]⟩) ⟨rfl, rfl, rfl, rfl, trivial⟩ ?_
  rintro ⟨k, ok⟩ ⟨hk, hl⟩
  refine cj_seq (cj_seq ?_)
  refine cj_regionG (gj_step (y_move rfl) rfl rfl rfl (gj_step (y_move rfl) rfl rfl rfl (gj_g 4 13 17 rfl rfl rfl rfl (fun hg13 => gj_yes rfl rfl rfl (y_move rfl) rfl rfl (gj_yes rfl rfl rfl (y_move rfl) rfl rfl (gj_yes rfl rfl rfl (y_lenA Tryz.underlying26 rfl) rfl rfl (gj_yes rfl rfl rfl (y_lss rfl rfl) rfl rfl (gj_nil rfl))))) (gj_step (y_and rfl rfl rfl) rfl rfl rfl (gj_nil ?_)))))
  refine ej_th ?_
  refine cj_cond rfl (fun h18 => ?_) (fun h18 => ?_)
  · have h18b := h18
    try simp only [sxb] at h18
    have hle : xs.length = ys.length := by
      have h := hl; rw [h18.1] at h; exact (of_decide_eq_true h.symm).1
    obtain ⟨x, hx'⟩ : ∃ x, xs[k]? = some x := ⟨_, List.getElem?_eq_getElem (by omega)⟩
    obtain ⟨y, hy'⟩ : ∃ y, ys[k]? = some y := ⟨_, List.getElem?_eq_getElem (by omega)⟩
    refine cj_skip (ej_th (cj_seq (cj_block ?_)))
    refine cj_draw (by kernel_rfl) (by kernel_rfl) (gj_step (y_move rfl) rfl rfl rfl (gj_step (y_move rfl) rfl rfl rfl (gj_step (y_ixR (reads_sl) Tryz.underlying26 Tryz.sizeOf3 rfl rfl (⟨by omega, by omega⟩)) rfl rfl rfl (gj_step (y_ld0 (reads_sl) Tryz.isAgg3 rfl (hx') rfl) rfl rfl rfl (gj_step (y_move rfl) rfl rfl rfl (gj_step (y_move rfl) rfl rfl rfl (gj_step (y_ixR (reads_sl) Tryz.underlying26 Tryz.sizeOf3 rfl rfl (⟨by omega, by omega⟩)) rfl rfl rfl (gj_step (y_ld0 (reads_sl) Tryz.isAgg3 rfl (hy') rfl) rfl rfl rfl (gj_step (y_eql rfl rfl) rfl rfl rfl (gj_step (y_assign rfl) rfl rfl rfl (gj_nil ?_)))))))))))
    refine ej_blk (ej_th ?_)
    refine cj_regionG (gj_step (y_move rfl) rfl rfl rfl (gj_step (y_add rfl rfl (by omega)) rfl rfl rfl (gj_step (y_assign rfl) rfl rfl rfl (gj_nil ?_))))
    refine ej_nx (k + 1, decide (x = y)) (by simp only; omega) ⟨by omega, ?_⟩ ⟨rfl, rfl, rfl, rfl, trivial⟩
    rw [h18.1] at hl
    have hl := of_decide_eq_true hl.symm
    exact decide_eq_decide.2 ⟨fun h => ⟨hl.1, (take_eq_succ hx' hy').2 ⟨hl.2, h⟩⟩, fun h => ((take_eq_succ hx' hy').1 h.2).2⟩
  · have h18b := h18
    try simp only [sxb] at h18
    refine cj_exit (ej_then_exit (ej_then_exit (ej_blk_hit (ej_th (cj_seq ?_)))))
    refine cj_regionG (gj_step (y_move rfl) rfl rfl rfl (gj_step (y_assign rfl) rfl rfl rfl (gj_nil ?_)))
    refine ej_th (cj_ret ?_)
    refine ej_ret1 rfl Tryz.results16 rfl (fun w' hp => ⟨?_, hp.below⟩)
    rw [hl]
    rcases h18 with h | h
    · rw [h] at hl
      have h1 := of_decide_eq_false hl.symm
      rw [decide_eq_false h1, decide_eq_false]
      rintro rfl
      exact h1 ⟨rfl, rfl⟩
    · rw [List.take_of_length_le (by omega)]
      congr 1
      refine congrArg _ (decide_eq_decide.2 ⟨fun h1 => ?_, ?_⟩)
      · rw [h1.2, List.take_of_length_le (by omega)]
      · rintro rfl
        exact ⟨rfl, (List.take_of_length_le (by omega)).symm⟩

end Go.Proofs.YtppfniekcgnmjaaGreatDoor.Ln
namespace Go.Proofs.YtppfniekcgnmjaaGreatDoor.Ln
open Go.Sx Go.RowKit
set_option maxRecDepth 20000
end Go.Proofs.YtppfniekcgnmjaaGreatDoor.Ln
namespace Go.Proofs.YtppfniekcgnmjaaGreatDoor.Ln
open Go.Sx Go.RowKit
set_option maxRecDepth 20000
end Go.Proofs.YtppfniekcgnmjaaGreatDoor.Ln
namespace Go.Proofs.YtppfniekcgnmjaaGreatDoor.Ln
open Go.Sx Go.RowKit
set_option maxRecDepth 20000
theorem k_CheckTerms (fr fl cap : Int) (w : World)  : Calls Tryz.prog 102 #[.agg #[.int .i64 fr, .int .i64 fl, .int .i64 cap]] w (fun e w' => e = .returned (.int .i64 (errT (badTerms fr fl cap))) ∧ Grow w w') := by
  refine enter_pure (args := [.agg #[.int .i64 fr, .int .i64 fl, .int .i64 cap]]) [] Tryz.func102 rfl (by rw [Tryz.ntmps102]; simp) (by simp) ?_
  refine cj_seq (cj_region ?_)
  refine oj_box rfl rfl rfl (fun b1 => ?_)
  refine oj_step (y_assign rfl) rfl rfl rfl ?_
  refine oj_nil ?_
  refine ej_th (cj_seq (cj_seq ?_))
  refine cj_regionG ?_
  refine gj_step (y_fa0 fa159_0 rfl) rfl rfl rfl (gj_step (y_load1 Tryz.isAgg3 rfl rfl) rfl rfl rfl (?_))
  refine gj_step (y_call Tryz.call56 rfl (fun w hp => k_within _ _ _ w)) rfl rfl rfl ?_
  refine gj_step (y_not rfl) rfl rfl rfl (gj_step (y_move rfl) rfl rfl rfl (?_))
  refine gj_g 4 7 11 rfl rfl rfl rfl (fun hg7 => gj_yes rfl rfl rfl (y_fa fa159_2 rfl) rfl rfl (gj_yes rfl rfl rfl (y_load1 Tryz.isAgg3 rfl rfl) rfl rfl (gj_yes rfl rfl rfl (y_call Tryz.call56 rfl (fun w hp => k_within _ _ _ w)) rfl rfl (gj_yes rfl rfl rfl (y_not rfl) rfl rfl (gj_nil rfl))))) ?_
  refine gj_step (y_or rfl rfl rfl) rfl rfl rfl (gj_step (y_move rfl) rfl rfl rfl (?_))
  refine gj_g 6 13 19 rfl rfl rfl rfl (fun hg13 => gj_yes rfl rfl rfl (y_fa fa159_1 rfl) rfl rfl (gj_yes rfl rfl rfl (y_load1 Tryz.isAgg3 rfl rfl) rfl rfl (gj_yes rfl rfl rfl (y_fa fa159_2 rfl) rfl rfl (gj_yes rfl rfl rfl (y_load1 Tryz.isAgg3 rfl rfl) rfl rfl (gj_yes rfl rfl rfl (y_call Tryz.call56 rfl (fun w hp => k_within _ _ _ w)) rfl rfl (gj_yes rfl rfl rfl (y_not rfl) rfl rfl (gj_nil rfl))))))) ?_
  refine gj_step (y_or rfl rfl rfl) rfl rfl rfl (?_)
  refine gj_nil ?_
  refine ej_th ?_
  refine cj_cond rfl (fun h20 => ?_) (fun h20 => ?_)
  · have h20b := h20
    try simp only [sxb] at h20
    refine cj_seq ?_
    refine cj_regionG (gj_step (y_assign rfl) rfl rfl rfl (gj_nil ?_))
    refine ej_th (cj_ret (ej_then_ret ?_))
    refine ej_ret1 rfl Tryz.results102 rfl (fun w' hp => ⟨?_, hp.below⟩)
    rw [show badTerms fr fl cap = true from h20b]; rfl
  · have h20b := h20
    try simp only [sxb] at h20
    refine cj_skip (ej_th (cj_seq ?_))
    refine cj_regionG (gj_step (y_assign rfl) rfl rfl rfl (gj_nil ?_))
    refine ej_th (cj_ret ?_)
    refine ej_ret1 rfl Tryz.results102 rfl (fun w' hp => ⟨?_, hp.below⟩)
    rw [show badTerms fr fl cap = false from h20b]; rfl

theorem k_most (fr fl cap lo hi : Int) (w : World) (hb : badTerms fr fl cap = false) (hv : 0 ≤ lo ∧ lo ≤ 2147483648) : Calls Tryz.prog 104 #[.agg #[.int .i64 fr, .int .i64 fl, .int .i64 cap], .agg #[.int .i64 lo, .int .i64 hi]] w (fun e w' => e = .returned (.int .i64 (mostOf fr fl cap lo)) ∧ Grow w w') := by
  obtain ⟨h1, h2, h3⟩ := badTerms_no hb
  have hm := mul_bd hv h1
  refine enter_pure (args := [.agg #[.int .i64 fr, .int .i64 fl, .int .i64 cap], .agg #[.int .i64 lo, .int .i64 hi]]) [] Tryz.func104 rfl (by rw [Tryz.ntmps104]; simp) (by simp) ?_
  refine cj_seq (cj_region ?_)
  refine oj_box rfl rfl rfl (fun b2 => ?_)
  refine oj_box rfl rfl rfl (fun b3 => ?_)
  refine oj_step (y_assign rfl) rfl rfl rfl ?_
  refine oj_nil ?_
  refine ej_th (cj_seq ?_)
  refine cj_regionG (gj_step (y_fa0 fa161_0 rfl) rfl rfl rfl (gj_step (y_load1 Tryz.isAgg3 rfl rfl) rfl rfl rfl (gj_step (y_fa0 fa159_0 rfl) rfl rfl rfl (gj_step (y_load1 Tryz.isAgg3 rfl rfl) rfl rfl rfl (gj_step (y_mul rfl rfl (by omega)) rfl rfl rfl (gj_step (y_quo rfl rfl (⟨by omega, by omega, by omega⟩)) rfl rfl rfl (gj_step (y_assign rfl) rfl rfl rfl (gj_nil ?_))))))))
  refine ej_th (cj_seq (cj_seq ?_))
  refine cj_regionG (gj_step (y_move rfl) rfl rfl rfl (gj_step (y_fa fa159_1 rfl) rfl rfl rfl (gj_step (y_load1 Tryz.isAgg3 rfl rfl) rfl rfl rfl (gj_step (y_lss rfl rfl) rfl rfl rfl (gj_nil ?_)))))
  refine ej_th ?_
  refine cj_cond rfl (fun h15 => ?_) (fun h15 => ?_)
  · have h15b := h15
    try simp only [sxb] at h15
    refine cj_regionG (gj_step (y_fa fa159_1 rfl) rfl rfl rfl (gj_step (y_load1 Tryz.isAgg3 rfl rfl) rfl rfl rfl (gj_step (y_fa0 fa161_0 rfl) rfl rfl rfl (gj_step (y_load1 Tryz.isAgg3 rfl rfl) rfl rfl rfl (gj_step (y_min rfl rfl) rfl rfl rfl (gj_step (y_assign rfl) rfl rfl rfl (gj_nil ?_)))))))
    refine ej_th (cj_seq ?_)
    refine cj_regionG (gj_step (y_move rfl) rfl rfl rfl (gj_step (y_fa fa159_2 rfl) rfl rfl rfl (gj_step (y_load1 Tryz.isAgg3 rfl rfl) rfl rfl rfl (gj_step (y_min rfl rfl) rfl rfl rfl (gj_step (y_assign rfl) rfl rfl rfl (gj_nil ?_))))))
    refine ej_th (cj_ret ?_)
    refine ej_ret1 rfl Tryz.results104 rfl (fun w' hp => ⟨?_, hp.below⟩)
    rw [mostOf, if_pos h15]
  · have h15b := h15
    try simp only [sxb] at h15
    refine cj_skip (ej_th (cj_seq ?_))
    refine cj_regionG (gj_step (y_move rfl) rfl rfl rfl (gj_step (y_fa fa159_2 rfl) rfl rfl rfl (gj_step (y_load1 Tryz.isAgg3 rfl rfl) rfl rfl rfl (gj_step (y_min rfl rfl) rfl rfl rfl (gj_step (y_assign rfl) rfl rfl rfl (gj_nil ?_))))))
    refine ej_th (cj_ret ?_)
    refine ej_ret1 rfl Tryz.results104 rfl (fun w' hp => ⟨?_, hp.below⟩)
    rw [mostOf, if_neg (by omega)]

theorem k_Most (fr fl cap lo hi : Int) (w : World)  : Calls Tryz.prog 61 #[.agg #[.int .i64 fr, .int .i64 fl, .int .i64 cap], .agg #[.int .i64 lo, .int .i64 hi]] w (fun e w' => e = .returned (.tuple #[.int .i64 (MostN fr fl cap lo hi), .int .i64 (MostE fr fl cap lo hi)]) ∧ Grow w w') := by
  refine enter_pure (args := [.agg #[.int .i64 fr, .int .i64 fl, .int .i64 cap], .agg #[.int .i64 lo, .int .i64 hi]]) [] Tryz.func61 rfl (by rw [Tryz.ntmps61]; simp) (by simp) ?_
  refine cj_seq (cj_region ?_)
  refine oj_box rfl rfl rfl (fun b2 => ?_)
  refine oj_box rfl rfl rfl (fun b3 => ?_)
  refine oj_step (y_assign rfl) rfl rfl rfl ?_
  refine oj_step (y_assign rfl) rfl rfl rfl ?_
  refine oj_nil ?_
  refine ej_th (cj_seq (cj_seq ?_))
  refine cj_regionG ?_
  refine gj_step (y_loadN Tryz.isAgg159 Tryz.sizeOf159 rfl) rfl rfl rfl (?_)
  refine gj_step (y_call Tryz.call102 rfl (fun w hp => k_CheckTerms _ _ _ w)) rfl rfl rfl ?_
  refine gj_step (y_assign rfl) rfl rfl rfl (?_)
  refine gj_nil ?_
  refine ej_th (cj_seq ?_)
  refine cj_regionG (gj_step (y_move rfl) rfl rfl rfl (gj_step (y_neq rfl rfl) rfl rfl rfl (gj_nil ?_)))
  refine ej_th ?_
  refine cj_cond rfl (fun h10 => ?_) (fun h10 => ?_)
  · have h10b := h10
    try simp only [sxb] at h10
    rw [errT_ne] at h10
    refine cj_seq ?_
    refine cj_regionG (gj_step (y_move rfl) rfl rfl rfl (gj_step (y_assign rfl) rfl rfl rfl (gj_step (y_assign rfl) rfl rfl rfl (gj_nil ?_))))
    refine ej_th (cj_ret (ej_then_ret ?_))
    refine ej_ret2 rfl Tryz.results61 rfl rfl (fun w' hp => ⟨?_, hp.below⟩)
    rw [MostN, MostE, h10]; rfl
  · have h10b := h10
    try simp only [sxb] at h10
    rw [errT_eq] at h10
    refine cj_skip (ej_th (cj_seq (cj_seq ?_)))
    refine cj_regionG ?_
    refine gj_step (y_loadN Tryz.isAgg161 Tryz.sizeOf161 rfl) rfl rfl rfl (?_)
    refine gj_step (y_call Tryz.call103 rfl (fun w hp => k_span _ _ _ w)) rfl rfl rfl ?_
    refine gj_step (y_not rfl) rfl rfl rfl (?_)
    refine gj_nil ?_
    refine ej_th ?_
    refine cj_cond rfl (fun h14 => ?_) (fun h14 => ?_)
    · have h14b := h14
      try simp only [sxb] at h14
      have hs : spanOk lo hi 2147483648 = false := not_t h14b
      refine cj_seq ?_
      refine cj_regionG (gj_step (y_assign rfl) rfl rfl rfl (gj_step (y_assign rfl) rfl rfl rfl (gj_nil ?_)))
      refine ej_th (cj_ret (ej_then_ret ?_))
      refine ej_ret2 rfl Tryz.results61 rfl rfl (fun w' hp => ⟨?_, hp.below⟩)
      rw [MostN, MostE, h10, hs]; rfl
    · have h14b := h14
      try simp only [sxb] at h14
      have hs : spanOk lo hi 2147483648 = true := not_f h14b
      have hs2 := hs
      simp only [spanOk, Bool.and_eq_true, decide_eq_true_eq] at hs2
      refine cj_skip (ej_th (cj_seq ?_))
      refine cj_regionG ?_
      refine gj_step (y_loadN Tryz.isAgg159 Tryz.sizeOf159 rfl) rfl rfl rfl (gj_step (y_loadN Tryz.isAgg161 Tryz.sizeOf161 rfl) rfl rfl rfl (?_))
      refine gj_step (y_call Tryz.call104 rfl (fun w hp => k_most _ _ _ _ _ w (by assumption) (by omega))) rfl rfl rfl ?_
      refine gj_step (y_assign rfl) rfl rfl rfl (gj_step (y_assign rfl) rfl rfl rfl (?_))
      refine gj_nil ?_
      refine ej_th (cj_ret ?_)
      refine ej_ret2 rfl Tryz.results61 rfl rfl (fun w' hp => ⟨?_, hp.below⟩)
      rw [MostN, MostE, h10, hs]; rfl

end Go.Proofs.YtppfniekcgnmjaaGreatDoor.Ln
namespace Go.Proofs.YtppfniekcgnmjaaGreatDoor.Ln
open Go.Sx Go.RowKit
set_option maxRecDepth 20000
theorem k_Index (l : List Int) (n : Int) (A : Option Addr) (c : Nat) (w : World) (hl : Rd w 1 enInt A l) : Calls Tryz.prog 152 #[.slice A l.length c, .int .i64 n] w (fun e w' => e = .returned (.int .i64 (seek l n 0)) ∧ Grow w w') := by
  have hlen := hl.len
  refine enter_pure (args := [.slice A l.length c, .int .i64 n]) [sl (fun b => b < w.heap.size) 1 enInt A l] Tryz.func152 rfl (by rw [Tryz.ntmps152]; simp) (fun g hg => by simp at hg; subst hg; exact ⟨hl, fun _ h => h⟩) ?_
  refine cj_seq ?_
  refine cj_regionG (gj_step (y_assign rfl) rfl rfl rfl (gj_nil ?_))
  refine ej_th (cj_seq (cj_seq ?_))
  refine cj_regionG (gj_step (y_move rfl) rfl rfl rfl (gj_step (y_lenA Tryz.underlying26 rfl) rfl rfl rfl (gj_step (y_move rfl) rfl rfl rfl (gj_nil ?_))))
  refine ej_th (cj_block ?_)
  refine cj_lpc (X := Nat) (fun k => k ≤ l.length ∧ seek (l.drop k) n k = seek l n 0) (fun k => [(0, .slice A l.length c), (1, .int .i64 n), (7, .int .i64 l.length), (8, .int .i64 k)]) (fun k => l.length - k) 0 (⟨Nat.zero_le _, rfl⟩) ⟨rfl, rfl, rfl, rfl, trivial⟩ ?_
  rintro k ⟨hk, hs⟩
  refine cj_seq ?_
  refine cj_regionG (gj_step (y_lss rfl rfl) rfl rfl rfl (gj_nil ?_))
  refine ej_th (cj_seq ?_)
  refine cj_cond rfl (fun h9 => ?_) (fun h9 => ?_)
  · have h9b := h9
    try simp only [sxb] at h9
    obtain ⟨x, hx⟩ : ∃ x, l[k]? = some x := ⟨_, List.getElem?_eq_getElem (by omega)⟩
    rw [seek_drop l n k x hx] at hs
    refine cj_skip (ej_th (cj_seq (cj_block (cj_seq ?_))))
    refine cj_regionG (gj_step (y_move rfl) rfl rfl rfl (gj_step (y_assign rfl) rfl rfl rfl (gj_nil ?_)))
    refine ej_th (cj_seq ?_)
    refine cj_regionG (gj_step (y_move rfl) rfl rfl rfl (gj_step (y_move rfl) rfl rfl rfl (gj_step (y_move rfl) rfl rfl rfl (gj_step (y_ixR (reads_sl) Tryz.underlying26 Tryz.sizeOf3 rfl rfl (⟨by omega, by omega⟩)) rfl rfl rfl (gj_step (y_ld0 (reads_sl) Tryz.isAgg3 rfl (hx) rfl) rfl rfl rfl (gj_step (y_eql rfl rfl) rfl rfl rfl (gj_nil ?_)))))))
    refine ej_th ?_
    refine cj_cond rfl (fun h16 => ?_) (fun h16 => ?_)
    · have h16b := h16
      try simp only [sxb] at h16
      refine cj_seq ?_
      refine cj_regionG (gj_step (y_move rfl) rfl rfl rfl (gj_step (y_assign rfl) rfl rfl rfl (gj_nil ?_)))
      refine ej_th (cj_ret (ej_blk_ret (ej_then_ret (ej_then_ret (ej_blk_ret (ej_then_ret ?_))))))
      refine ej_ret1 rfl Tryz.results152 rfl (fun w' hp => ⟨?_, hp.below⟩)
      rw [← hs, if_pos (by omega)]
    · have h16b := h16
      try simp only [sxb] at h16
      refine cj_skip (ej_blk (ej_th ?_))
      refine cj_regionG (gj_step (y_add rfl rfl (by omega)) rfl rfl rfl (gj_step (y_move rfl) rfl rfl rfl (gj_nil ?_)))
      refine ej_nx (k + 1) (by omega) ⟨by omega, ?_⟩ ⟨rfl, rfl, rfl, rfl, trivial⟩
      rw [← hs, if_neg (by omega)]
  · have h9b := h9
    try simp only [sxb] at h9
    refine cj_exit (ej_then_exit (ej_then_exit (ej_blk_hit (ej_th (cj_seq ?_)))))
    refine cj_regionG (gj_step (y_assign rfl) rfl rfl rfl (gj_nil ?_))
    refine ej_th (cj_ret ?_)
    refine ej_ret1 rfl Tryz.results152 rfl (fun w' hp => ⟨?_, hp.below⟩)
    rw [← hs, List.drop_of_length_le (by omega)]; rfl

theorem k_Contains (l : List Int) (n : Int) (A : Option Addr) (c : Nat) (w : World) (hl : Rd w 1 enInt A l) : Calls Tryz.prog 123 #[.slice A l.length c, .int .i64 n] w (fun e w' => e = .returned (.bool (decide (0 ≤ seek l n 0))) ∧ Grow w w') := by
  refine enter_pure (args := [.slice A l.length c, .int .i64 n]) [sl (fun b => b < w.heap.size) 1 enInt A l] Tryz.func123 rfl (by rw [Tryz.ntmps123]; simp) (fun g hg => by simp at hg; subst hg; exact ⟨hl, fun _ h => h⟩) ?_
  refine cj_seq ?_
  refine cj_regionG (gj_step (y_assign rfl) rfl rfl rfl (gj_nil ?_))
  refine ej_th (cj_seq ?_)
  refine cj_regionG ?_
  refine gj_step (y_move rfl) rfl rfl rfl (gj_step (y_move rfl) rfl rfl rfl (?_))
  refine gj_step (y_call Tryz.call152 rfl (fun w hp => k_Index _ _ _ _ w hp.rd)) rfl rfl rfl ?_
  refine gj_step (y_geq rfl rfl) rfl rfl rfl (gj_step (y_assign rfl) rfl rfl rfl (?_))
  refine gj_nil ?_
  refine ej_th (cj_ret ?_)
  exact ej_ret1 rfl Tryz.results123 rfl (fun w' hp => ⟨rfl, hp.below⟩)

theorem k_Check (d : Deal) (Ac : Option Addr) (cc : Nat) (w : World) (hc : Rd w 1 enInt Ac d.closed) : Calls Tryz.prog 44 #[.agg #[.int .i64 d.lr, .int .i64 d.lc, .int .i64 d.tr, .int .i64 d.tf, .int .i64 d.te, .int .i64 d.tt, .int .i64 d.tg, .slice Ac d.closed.length cc, .int .i64 d.start, .int .i64 d.sum]] w (fun e w' => e = .returned (.int .i64 (errD (badDeal d))) ∧ Grow w w') := by
  have hlen := hc.len
  refine enter_pure (args := [.agg #[.int .i64 d.lr, .int .i64 d.lc, .int .i64 d.tr, .int .i64 d.tf, .int .i64 d.te, .int .i64 d.tt, .int .i64 d.tg, .slice Ac d.closed.length cc, .int .i64 d.start, .int .i64 d.sum]]) [sl (fun b => b < w.heap.size) 1 enInt Ac d.closed] Tryz.func44 rfl (by rw [Tryz.ntmps44]; simp) (fun g hg => by simp at hg; subst hg; exact ⟨hc, fun _ h => h⟩) ?_
  refine cj_seq (cj_region ?_)
  refine oj_box rfl rfl rfl (fun b1 => ?_)
  refine oj_step (y_assign rfl) rfl rfl rfl ?_
  refine oj_nil ?_
  refine ej_th (cj_seq (cj_region ?_))
  refine oj_step (y_fa fa28_1 rfl) rfl rfl rfl ?_
  refine oj_step (y_loadN Tryz.isAgg25 Tryz.sizeOf25 rfl) rfl rfl rfl ?_
  refine oj_alloc Tryz.zeroValue25 rfl rfl (fun b3 => ?_)
  refine oj_store rfl rfl rfl rfl Tryz.sizeOf25 rfl ?_
  refine oj_nil ?_
  refine ej_th (cj_seq (cj_seq ?_))
  refine cj_regionG ?_
  refine gj_step (y_fa0 fa28_0 rfl) rfl rfl rfl (gj_step (y_fa0 fa23_0 rfl) rfl rfl rfl (gj_step (y_load1 Tryz.isAgg3 rfl rfl) rfl rfl rfl (?_)))
  refine gj_step (y_call Tryz.call56 rfl (fun w hp => k_within _ _ _ w)) rfl rfl rfl ?_
  refine gj_step (y_not rfl) rfl rfl rfl (gj_step (y_move rfl) rfl rfl rfl (?_))
  refine gj_g 5 13 18 rfl rfl rfl rfl (fun hg13 => gj_yes rfl rfl rfl (y_fa0 fa28_0 rfl) rfl rfl (gj_yes rfl rfl rfl (y_fa fa23_1 rfl) rfl rfl (gj_yes rfl rfl rfl (y_load1 Tryz.isAgg3 rfl rfl) rfl rfl (gj_yes rfl rfl rfl (y_call Tryz.call56 rfl (fun w hp => k_within _ _ _ w)) rfl rfl (gj_yes rfl rfl rfl (y_not rfl) rfl rfl (gj_nil rfl)))))) ?_
  refine gj_step (y_or rfl rfl rfl) rfl rfl rfl (gj_step (y_move rfl) rfl rfl rfl (?_))
  refine gj_g 4 20 24 rfl rfl rfl rfl (fun hg20 => gj_yes rfl rfl rfl (y_fa0 fa25_0 rfl) rfl rfl (gj_yes rfl rfl rfl (y_load1 Tryz.isAgg3 rfl rfl) rfl rfl (gj_yes rfl rfl rfl (y_call Tryz.call56 rfl (fun w hp => k_within _ _ _ w)) rfl rfl (gj_yes rfl rfl rfl (y_not rfl) rfl rfl (gj_nil rfl))))) ?_
  refine gj_step (y_or rfl rfl rfl) rfl rfl rfl (gj_step (y_move rfl) rfl rfl rfl (?_))
  refine gj_g 4 26 30 rfl rfl rfl rfl (fun hg26 => gj_yes rfl rfl rfl (y_fa fa25_1 rfl) rfl rfl (gj_yes rfl rfl rfl (y_load1 Tryz.isAgg3 rfl rfl) rfl rfl (gj_yes rfl rfl rfl (y_call Tryz.call56 rfl (fun w hp => k_within _ _ _ w)) rfl rfl (gj_yes rfl rfl rfl (y_not rfl) rfl rfl (gj_nil rfl))))) ?_
  refine gj_step (y_or rfl rfl rfl) rfl rfl rfl (gj_step (y_move rfl) rfl rfl rfl (?_))
  refine gj_g 4 32 36 rfl rfl rfl rfl (fun hg32 => gj_yes rfl rfl rfl (y_fa fa25_2 rfl) rfl rfl (gj_yes rfl rfl rfl (y_load1 Tryz.isAgg3 rfl rfl) rfl rfl (gj_yes rfl rfl rfl (y_call Tryz.call56 rfl (fun w hp => k_within _ _ _ w)) rfl rfl (gj_yes rfl rfl rfl (y_not rfl) rfl rfl (gj_nil rfl))))) ?_
  refine gj_step (y_or rfl rfl rfl) rfl rfl rfl (gj_step (y_move rfl) rfl rfl rfl (?_))
  refine gj_g 4 38 42 rfl rfl rfl rfl (fun hg38 => gj_yes rfl rfl rfl (y_fa fa25_3 rfl) rfl rfl (gj_yes rfl rfl rfl (y_load1 Tryz.isAgg3 rfl rfl) rfl rfl (gj_yes rfl rfl rfl (y_call Tryz.call56 rfl (fun w hp => k_within _ _ _ w)) rfl rfl (gj_yes rfl rfl rfl (y_not rfl) rfl rfl (gj_nil rfl))))) ?_
  refine gj_step (y_or rfl rfl rfl) rfl rfl rfl (gj_step (y_move rfl) rfl rfl rfl (?_))
  refine gj_g 4 44 48 rfl rfl rfl rfl (fun hg44 => gj_yes rfl rfl rfl (y_fa fa25_4 rfl) rfl rfl (gj_yes rfl rfl rfl (y_load1 Tryz.isAgg3 rfl rfl) rfl rfl (gj_yes rfl rfl rfl (y_call Tryz.call56 rfl (fun w hp => k_within _ _ _ w)) rfl rfl (gj_yes rfl rfl rfl (y_not rfl) rfl rfl (gj_nil rfl))))) ?_
  refine gj_step (y_or rfl rfl rfl) rfl rfl rfl (?_)
  refine gj_nil ?_
  refine ej_th ?_
  refine cj_cond rfl (fun h49 => ?_) (fun h49 => ?_)
  · have h49b := h49
    try simp only [sxb] at h49
    refine cj_seq ?_
    refine cj_regionG (gj_step (y_assign rfl) rfl rfl rfl (gj_nil ?_))
    refine ej_th (cj_ret (ej_then_ret ?_))
    refine ej_ret1 rfl Tryz.results44 rfl (fun w' hp => ⟨?_, hp.below⟩)
    rw [badDeal, show badDeal1 d = true from h49b]; rfl
  · have h49b := h49
    try simp only [sxb] at h49
    refine cj_skip (ej_th (cj_seq (cj_seq ?_)))
    refine cj_regionG ?_
    refine gj_step (y_fa fa28_2 rfl) rfl rfl rfl (gj_step (y_load1 Tryz.isAgg26 rfl rfl) rfl rfl rfl (gj_step (y_lenA Tryz.underlying26 rfl) rfl rfl rfl (gj_step (y_gtr rfl rfl) rfl rfl rfl (gj_step (y_move rfl) rfl rfl rfl (?_)))))
    refine gj_g 4 54 58 rfl rfl rfl rfl (fun hg54 => gj_yes rfl rfl rfl (y_fa fa28_3 rfl) rfl rfl (gj_yes rfl rfl rfl (y_load1 Tryz.isAgg3 rfl rfl) rfl rfl (gj_yes rfl rfl rfl (y_call Tryz.call79 rfl (fun w hp => k_day _ w)) rfl rfl (gj_yes rfl rfl rfl (y_not rfl) rfl rfl (gj_nil rfl))))) ?_
    refine gj_step (y_or rfl rfl rfl) rfl rfl rfl (gj_step (y_move rfl) rfl rfl rfl (?_))
    refine gj_g 4 60 64 rfl rfl rfl rfl (fun hg60 => gj_yes rfl rfl rfl (y_fa fa28_4 rfl) rfl rfl (gj_yes rfl rfl rfl (y_load1 Tryz.isAgg3 rfl rfl) rfl rfl (gj_yes rfl rfl rfl (y_call Tryz.call56 rfl (fun w hp => k_within _ _ _ w)) rfl rfl (gj_yes rfl rfl rfl (y_not rfl) rfl rfl (gj_nil rfl))))) ?_
    refine gj_step (y_or rfl rfl rfl) rfl rfl rfl (?_)
    refine gj_nil ?_
    refine ej_th ?_
    refine cj_cond rfl (fun h65 => ?_) (fun h65 => ?_)
    · have h65b := h65
      try simp only [sxb] at h65
      refine cj_seq ?_
      refine cj_regionG (gj_step (y_assign rfl) rfl rfl rfl (gj_nil ?_))
      refine ej_th (cj_ret (ej_then_ret ?_))
      refine ej_ret1 rfl Tryz.results44 rfl (fun w' hp => ⟨?_, hp.below⟩)
      rw [badDeal, show badDeal2 d = true from h65b]; simp [errD]
    · have h65b := h65
      try simp only [sxb] at h65
      refine cj_skip (ej_th (cj_seq (cj_seq ?_)))
      refine cj_regionG (gj_step (y_fa fa28_2 rfl) rfl rfl rfl (gj_step (y_load1 Tryz.isAgg26 rfl rfl) rfl rfl rfl (gj_step (y_lenA Tryz.underlying26 rfl) rfl rfl rfl (gj_step (y_move rfl) rfl rfl rfl (gj_nil ?_)))))
      refine ej_th (cj_block ?_)
      refine cj_lpc (X := Nat) (fun k => k ≤ d.closed.length ∧ ascOk (prevOf d.closed k) (d.closed.drop k) = ascOk (-1) d.closed) (fun k => [(1, .pointer (some ⟨b1, 0, none⟩)), (67, .slice Ac d.closed.length cc), (68, .int .i64 d.closed.length), (69, .int .i64 k)]) (fun k => d.closed.length - k) 0 (⟨Nat.zero_le _, rfl⟩) ⟨rfl, rfl, rfl, rfl, trivial⟩ ?_
      rintro k ⟨hk, hl⟩
      refine cj_seq ?_
      refine cj_regionG (gj_step (y_lss rfl rfl) rfl rfl rfl (gj_nil ?_))
      refine ej_th (cj_seq ?_)
      refine cj_cond rfl (fun h70 => ?_) (fun h70 => ?_)
      · have h70b := h70
        try simp only [sxb] at h70
        obtain ⟨n, hx⟩ : ∃ n, d.closed[k]? = some n := ⟨_, List.getElem?_eq_getElem (by omega)⟩
        rw [ascOk_drop _ k n hx] at hl
        refine cj_skip (ej_th (cj_seq (cj_block (cj_seq ?_))))
        refine cj_regionG (gj_step (y_move rfl) rfl rfl rfl (gj_step (y_ixR (reads_sl) Tryz.underlying26 Tryz.sizeOf3 rfl rfl (⟨by omega, by omega⟩)) rfl rfl rfl (gj_step (y_ld0 (reads_sl) Tryz.isAgg3 rfl (hx) rfl) rfl rfl rfl (gj_step (y_assign rfl) rfl rfl rfl (gj_step (y_assign rfl) rfl rfl rfl (gj_nil ?_))))))
        refine ej_th (cj_seq ?_)
        refine cj_regionG ?_
        refine gj_step (y_move rfl) rfl rfl rfl (?_)
        refine gj_step (y_call Tryz.call79 rfl (fun w hp => k_day _ w)) rfl rfl rfl ?_
        refine gj_step (y_not rfl) rfl rfl rfl (gj_step (y_move rfl) rfl rfl rfl (?_))
        refine gj_g 12 77 89 rfl rfl rfl rfl (fun hg77 => gj_yes rfl rfl rfl (y_move rfl) rfl rfl (gj_yes rfl rfl rfl (y_gtr rfl rfl) rfl rfl (gj_yes rfl rfl rfl (y_move rfl) rfl rfl (gj_g 8 80 88 rfl rfl rfl rfl (fun hg80 => gj_yes rfl rfl rfl (y_fa fa28_2 rfl) rfl rfl (gj_yes rfl rfl rfl (y_load1 Tryz.isAgg26 rfl rfl) rfl rfl (gj_yes rfl rfl rfl (y_move rfl) rfl rfl (gj_yes rfl rfl rfl (y_sub rfl rfl (by have := of_decide_eq_true hg80; omega)) rfl rfl (gj_yes rfl rfl rfl (y_ixR (reads_sl) Tryz.underlying26 Tryz.sizeOf3 rfl rfl (⟨by have := of_decide_eq_true hg80; omega, by have := of_decide_eq_true hg80; omega⟩)) rfl rfl (gj_yes rfl rfl rfl (y_ld0 (reads_sl) Tryz.isAgg3 rfl (geq 0 (by have := of_decide_eq_true hg80; omega)) rfl) rfl rfl (gj_yes rfl rfl rfl (y_move rfl) rfl rfl (gj_yes rfl rfl rfl (y_geq rfl rfl) rfl rfl (gj_nil rfl))))))))) (gj_yes rfl rfl rfl (y_and rfl rfl rfl) rfl rfl (gj_nil rfl)))))) ?_
        refine gj_step (y_or rfl rfl rfl) rfl rfl rfl (?_)
        refine gj_nil ?_
        refine ej_th ?_
        refine cj_cond rfl (fun h90 => ?_) (fun h90 => ?_)
        · have h90b := h90
          try simp only [sxb] at h90
          have hstep : (btw 0 n 36500 && decide (prevOf d.closed k < n)) = false := not_t ((asc_V d.closed k n).symm.trans h90b)
          refine cj_seq ?_
          refine cj_regionG (gj_step (y_assign rfl) rfl rfl rfl (gj_nil ?_))
          refine ej_th (cj_ret (ej_blk_ret (ej_then_ret (ej_then_ret (ej_blk_ret (ej_then_ret ?_))))))
          refine ej_ret1 rfl Tryz.results44 rfl (fun w' hp => ⟨?_, hp.below⟩)
          rw [badDeal, ← hl, hstep]; simp [errD]
        · have h90b := h90
          try simp only [sxb] at h90
          have hstep : (btw 0 n 36500 && decide (prevOf d.closed k < n)) = true := not_f ((asc_V d.closed k n).symm.trans h90b)
          refine cj_skip (ej_blk (ej_th ?_))
          refine cj_regionG (gj_step (y_add rfl rfl (by omega)) rfl rfl rfl (gj_step (y_move rfl) rfl rfl rfl (gj_nil ?_)))
          refine ej_nx (k + 1) (by omega) ⟨by omega, ?_⟩ ⟨rfl, rfl, rfl, rfl, trivial⟩
          rw [← hl, hstep, Bool.true_and]
      · have h70b := h70
        try simp only [sxb] at h70
        refine cj_exit (ej_then_exit (ej_then_exit (ej_blk_hit (ej_th (cj_seq ?_)))))
        refine cj_regionG (gj_step (y_assign rfl) rfl rfl rfl (gj_nil ?_))
        refine ej_th (cj_ret ?_)
        refine ej_ret1 rfl Tryz.results44 rfl (fun w' hp => ⟨?_, hp.below⟩)
        rw [List.drop_of_length_le (by omega)] at hl
        rw [badDeal, show badDeal1 d = false from h49b, show badDeal2 d = false from h65b, ← hl]; rfl

end Go.Proofs.YtppfniekcgnmjaaGreatDoor.Ln
namespace Go.Proofs.YtppfniekcgnmjaaGreatDoor.Ln
open Go.Sx Go.RowKit
set_option maxRecDepth 20000
theorem k_open (d : Deal) (Ac : Option Addr) (cc : Nat) (w : World)  : Calls Tryz.prog 81 #[.agg #[.int .i64 d.lr, .int .i64 d.lc, .int .i64 d.tr, .int .i64 d.tf, .int .i64 d.te, .int .i64 d.tt, .int .i64 d.tg, .slice Ac d.closed.length cc, .int .i64 d.start, .int .i64 d.sum]] w (fun e w' => e = .returned (.agg (encLn d Ac cc (openL d)).toArray) ∧ Grow w w') := by
  refine enter_pure (args := [.agg #[.int .i64 d.lr, .int .i64 d.lc, .int .i64 d.tr, .int .i64 d.tf, .int .i64 d.te, .int .i64 d.tt, .int .i64 d.tg, .slice Ac d.closed.length cc, .int .i64 d.start, .int .i64 d.sum]]) [] Tryz.func81 rfl (by rw [Tryz.ntmps81]; simp) (by simp) ?_
  refine cj_seq (cj_region ?_)
  refine oj_box rfl rfl rfl (fun b1 => ?_)
  refine oj_alloc Tryz.zeroValue84 rfl rfl (fun b2 => ?_)
  refine oj_nil ?_
  refine ej_th (cj_seq (cj_region ?_))
  refine oj_step (y_fa fa28_4 rfl) rfl rfl rfl ?_
  refine oj_step (y_load1 Tryz.isAgg3 rfl rfl) rfl rfl rfl ?_
  refine oj_step (y_build (cs := [.int .i64 d.sum, .int .i64 0, .int .i64 0, .int .i64 0, .bool true]) st42 rfl (by kernel_rfl)) rfl rfl rfl ?_
  refine oj_step (y_loadN Tryz.isAgg28 Tryz.sizeOf28 rfl) rfl rfl rfl ?_
  refine oj_step (y_fa fa28_3 rfl) rfl rfl rfl ?_
  refine oj_step (y_load1 Tryz.isAgg3 rfl rfl) rfl rfl rfl ?_
  refine oj_step (y_fa fa28_3 rfl) rfl rfl rfl ?_
  refine oj_step (y_load1 Tryz.isAgg3 rfl rfl) rfl rfl rfl ?_
  refine oj_step (y_build (cs := [.int .i64 d.sum, .int .i64 0, .int .i64 0, .int .i64 0, .bool true, .int .i64 0, .int .i64 0, .int .i64 0, .int .i64 0, .int .i64 d.lr, .int .i64 d.lc, .int .i64 d.tr, .int .i64 d.tf, .int .i64 d.te, .int .i64 d.tt, .int .i64 d.tg, .slice Ac d.closed.length cc, .int .i64 d.start, .int .i64 d.sum, .int .i64 d.start, .int .i64 d.start]) st84 rfl (by kernel_rfl)) rfl rfl rfl ?_
  refine oj_store rfl rfl rfl rfl Tryz.sizeOf84 rfl ?_
  refine oj_nil ?_
  refine ej_th (cj_ret ?_)
  exact ej_retC1 rfl Tryz.results81 rfl (y_loadN Tryz.isAgg84 Tryz.sizeOf84 rfl) (fun w' hp => ⟨rfl, hp.below⟩)

theorem k_limit (d : Deal) (Ac : Option Addr) (cc : Nat) (x : Ln) (w : World) (hd : DealOk d) (hx : LOk x) : Calls Tryz.prog 27 #[.agg #[.int .i64 x.pr, .int .i64 x.ch, .int .i64 x.pd, .int .i64 x.ag, .bool x.op, .int .i64 x.all, .int .i64 x.dear, .int .i64 x.days, .int .i64 x.fees, .int .i64 d.lr, .int .i64 d.lc, .int .i64 d.tr, .int .i64 d.tf, .int .i64 d.te, .int .i64 d.tt, .int .i64 d.tg, .slice Ac d.closed.length cc, .int .i64 d.start, .int .i64 d.sum, .int .i64 x.day, .int .i64 x.held]] w (fun e w' => e = .returned (.int .i64 (limitOf d x)) ∧ Grow w w') := by
  obtain ⟨h1, h2, h3⟩ := hx.lim hd
  refine enter_pure (args := [.agg #[.int .i64 x.pr, .int .i64 x.ch, .int .i64 x.pd, .int .i64 x.ag, .bool x.op, .int .i64 x.all, .int .i64 x.dear, .int .i64 x.days, .int .i64 x.fees, .int .i64 d.lr, .int .i64 d.lc, .int .i64 d.tr, .int .i64 d.tf, .int .i64 d.te, .int .i64 d.tt, .int .i64 d.tg, .slice Ac d.closed.length cc, .int .i64 d.start, .int .i64 d.sum, .int .i64 x.day, .int .i64 x.held]]) [] Tryz.func27 rfl (by rw [Tryz.ntmps27]; simp) (by simp) ?_
  refine cj_seq (cj_region ?_)
  refine oj_box rfl rfl rfl (fun b1 => ?_)
  refine oj_step (y_assign rfl) rfl rfl rfl ?_
  refine oj_nil ?_
  refine ej_th (cj_seq ?_)
  refine cj_regionG (gj_step (y_fa fa84_1 rfl) rfl rfl rfl (gj_step (y_fa0 fa82_0 rfl) rfl rfl rfl (gj_step (y_load1 Tryz.isAgg3 rfl rfl) rfl rfl rfl (gj_step (y_fa fa84_2 rfl) rfl rfl rfl (gj_step (y_fa0 fa28_0 rfl) rfl rfl rfl (gj_step (y_fa0 fa23_0 rfl) rfl rfl rfl (gj_step (y_load1 Tryz.isAgg3 rfl rfl) rfl rfl rfl (gj_step (y_mul rfl rfl (by omega)) rfl rfl rfl (gj_step (y_quo rfl rfl (⟨by omega, by omega, by omega⟩)) rfl rfl rfl (gj_step (y_fa fa84_2 rfl) rfl rfl rfl (gj_step (y_fa fa28_4 rfl) rfl rfl rfl (gj_step (y_load1 Tryz.isAgg3 rfl rfl) rfl rfl rfl (gj_step (y_fa fa84_2 rfl) rfl rfl rfl (gj_step (y_fa0 fa28_0 rfl) rfl rfl rfl (gj_step (y_fa fa23_1 rfl) rfl rfl rfl (gj_step (y_load1 Tryz.isAgg3 rfl rfl) rfl rfl rfl (gj_step (y_mul rfl rfl (by omega)) rfl rfl rfl (gj_step (y_quo rfl rfl (⟨by omega, by omega, by omega⟩)) rfl rfl rfl (gj_step (y_min rfl rfl) rfl rfl rfl (gj_step (y_assign rfl) rfl rfl rfl (gj_nil ?_)))))))))))))))))))))
  refine ej_th (cj_ret ?_)
  exact ej_ret1 rfl Tryz.results27 rfl (fun w' hp => ⟨rfl, hp.below⟩)

theorem k_charge (d : Deal) (Ac : Option Addr) (cc : Nat) (x : Ln) (w : World) (hd : DealOk d) (hx : LOk x) : Calls Tryz.prog 93 #[.agg #[.int .i64 x.pr, .int .i64 x.ch, .int .i64 x.pd, .int .i64 x.ag, .bool x.op, .int .i64 x.all, .int .i64 x.dear, .int .i64 x.days, .int .i64 x.fees, .int .i64 d.lr, .int .i64 d.lc, .int .i64 d.tr, .int .i64 d.tf, .int .i64 d.te, .int .i64 d.tt, .int .i64 d.tg, .slice Ac d.closed.length cc, .int .i64 d.start, .int .i64 d.sum, .int .i64 x.day, .int .i64 x.held]] w (fun e w' => e = .returned (.int .i64 (chargeOf d x)) ∧ Grow w w') := by
  obtain ⟨h1, h2, h3⟩ := hx.lim hd
  have h4 := hx.fees
  refine enter_pure (args := [.agg #[.int .i64 x.pr, .int .i64 x.ch, .int .i64 x.pd, .int .i64 x.ag, .bool x.op, .int .i64 x.all, .int .i64 x.dear, .int .i64 x.days, .int .i64 x.fees, .int .i64 d.lr, .int .i64 d.lc, .int .i64 d.tr, .int .i64 d.tf, .int .i64 d.te, .int .i64 d.tt, .int .i64 d.tg, .slice Ac d.closed.length cc, .int .i64 d.start, .int .i64 d.sum, .int .i64 x.day, .int .i64 x.held]]) [] Tryz.func93 rfl (by rw [Tryz.ntmps93]; simp) (by simp) ?_
  refine cj_seq (cj_region ?_)
  refine oj_box rfl rfl rfl (fun b1 => ?_)
  refine oj_step (y_assign rfl) rfl rfl rfl ?_
  refine oj_nil ?_
  refine ej_th (cj_seq ?_)
  refine cj_draw (by kernel_rfl) (by kernel_rfl) ?_
  refine gj_step (y_fa fa84_1 rfl) rfl rfl rfl (gj_step (y_fa fa82_1 rfl) rfl rfl rfl (gj_step (y_load1 Tryz.isAgg3 rfl rfl) rfl rfl rfl (gj_step (y_fa fa84_2 rfl) rfl rfl rfl (gj_step (y_fa fa28_1 rfl) rfl rfl rfl (gj_step (y_fa0 fa25_0 rfl) rfl rfl rfl (gj_step (y_load1 Tryz.isAgg3 rfl rfl) rfl rfl rfl (gj_step (y_mul rfl rfl (by omega)) rfl rfl rfl (gj_step (y_quo rfl rfl (⟨by omega, by omega, by omega⟩)) rfl rfl rfl (gj_step (y_fa fa84_1 rfl) rfl rfl rfl (gj_step (y_fa fa82_3 rfl) rfl rfl rfl (gj_step (y_load1 Tryz.isAgg3 rfl rfl) rfl rfl rfl (gj_step (y_add rfl rfl (by omega)) rfl rfl rfl (gj_step (y_loadN Tryz.isAgg84 Tryz.sizeOf84 rfl) rfl rfl rfl (?_))))))))))))))
  refine gj_step (y_call Tryz.call27 rfl (fun w hp => k_limit d Ac cc x w hd hx)) rfl rfl rfl ?_
  refine gj_step (y_min rfl rfl) rfl rfl rfl (gj_step (y_assign rfl) rfl rfl rfl (?_))
  refine gj_nil ?_
  refine ej_th (cj_ret ?_)
  exact ej_ret1 rfl Tryz.results93 rfl (fun w' hp => ⟨rfl, hp.below⟩)

theorem k_counts (d : Deal) (Ac : Option Addr) (cc : Nat) (x : Ln) (day : Int) (w : World) (hc : Rd w 1 enInt Ac d.closed) : Calls Tryz.prog 92 #[.agg #[.int .i64 x.pr, .int .i64 x.ch, .int .i64 x.pd, .int .i64 x.ag, .bool x.op, .int .i64 x.all, .int .i64 x.dear, .int .i64 x.days, .int .i64 x.fees, .int .i64 d.lr, .int .i64 d.lc, .int .i64 d.tr, .int .i64 d.tf, .int .i64 d.te, .int .i64 d.tt, .int .i64 d.tg, .slice Ac d.closed.length cc, .int .i64 d.start, .int .i64 d.sum, .int .i64 x.day, .int .i64 x.held], .int .i64 day] w (fun e w' => e = .returned (.bool (countsB d x day)) ∧ Grow w w') := by
  refine enter_pure (args := [.agg #[.int .i64 x.pr, .int .i64 x.ch, .int .i64 x.pd, .int .i64 x.ag, .bool x.op, .int .i64 x.all, .int .i64 x.dear, .int .i64 x.days, .int .i64 x.fees, .int .i64 d.lr, .int .i64 d.lc, .int .i64 d.tr, .int .i64 d.tf, .int .i64 d.te, .int .i64 d.tt, .int .i64 d.tg, .slice Ac d.closed.length cc, .int .i64 d.start, .int .i64 d.sum, .int .i64 x.day, .int .i64 x.held], .int .i64 day]) [sl (fun b => b < w.heap.size) 1 enInt Ac d.closed] Tryz.func92 rfl (by rw [Tryz.ntmps92]; simp) (fun g hg => by simp at hg; subst hg; exact ⟨hc, fun _ h => h⟩) ?_
  refine cj_seq (cj_region ?_)
  refine oj_box rfl rfl rfl (fun b2 => ?_)
  refine oj_step (y_assign rfl) rfl rfl rfl ?_
  refine oj_nil ?_
  refine ej_th (cj_seq ?_)
  refine cj_regionG ?_
  refine gj_step (y_fa0 fa84_0 rfl) rfl rfl rfl (gj_step (y_fa fa42_4 rfl) rfl rfl rfl (gj_step (y_load1 Tryz.isAgg4 rfl rfl) rfl rfl rfl (gj_step (y_move rfl) rfl rfl rfl (?_))))
  refine gj_g 4 8 12 rfl rfl rfl rfl (fun hg8 => gj_yes rfl rfl rfl (y_move rfl) rfl rfl (gj_yes rfl rfl rfl (y_fa fa84_4 rfl) rfl rfl (gj_yes rfl rfl rfl (y_load1 Tryz.isAgg3 rfl rfl) rfl rfl (gj_yes rfl rfl rfl (y_gtr rfl rfl) rfl rfl (gj_nil rfl))))) ?_
  refine gj_step (y_and rfl rfl rfl) rfl rfl rfl (gj_step (y_move rfl) rfl rfl rfl (?_))
  refine gj_g 6 14 20 rfl rfl rfl rfl (fun hg14 => gj_yes rfl rfl rfl (y_fa fa84_2 rfl) rfl rfl (gj_yes rfl rfl rfl (y_fa fa28_2 rfl) rfl rfl (gj_yes rfl rfl rfl (y_load1 Tryz.isAgg26 rfl rfl) rfl rfl (gj_yes rfl rfl rfl (y_move rfl) rfl rfl (gj_yes rfl rfl rfl (y_call Tryz.call123 rfl (fun w hp => k_Contains _ _ _ _ w hp.rd)) rfl rfl (gj_yes rfl rfl rfl (y_not rfl) rfl rfl (gj_nil rfl))))))) ?_
  refine gj_step (y_and rfl rfl rfl) rfl rfl rfl (gj_step (y_assign rfl) rfl rfl rfl (?_))
  refine gj_nil ?_
  refine ej_th (cj_ret ?_)
  exact ej_ret1 rfl Tryz.results92 rfl (fun w' hp => ⟨rfl, hp.below⟩)

theorem k_over (d : Deal) (Ac : Option Addr) (cc : Nat) (x : Ln) (w : World) (hd : DealOk d) : Calls Tryz.prog 82 #[.agg #[.int .i64 x.pr, .int .i64 x.ch, .int .i64 x.pd, .int .i64 x.ag, .bool x.op, .int .i64 x.all, .int .i64 x.dear, .int .i64 x.days, .int .i64 x.fees, .int .i64 d.lr, .int .i64 d.lc, .int .i64 d.tr, .int .i64 d.tf, .int .i64 d.te, .int .i64 d.tt, .int .i64 d.tg, .slice Ac d.closed.length cc, .int .i64 d.start, .int .i64 d.sum, .int .i64 x.day, .int .i64 x.held]] w (fun e w' => e = .returned (.bool (overB d x)) ∧ Grow w w') := by
  have h1 := hd.tt
  have h2 := hd.tg
  refine enter_pure (args := [.agg #[.int .i64 x.pr, .int .i64 x.ch, .int .i64 x.pd, .int .i64 x.ag, .bool x.op, .int .i64 x.all, .int .i64 x.dear, .int .i64 x.days, .int .i64 x.fees, .int .i64 d.lr, .int .i64 d.lc, .int .i64 d.tr, .int .i64 d.tf, .int .i64 d.te, .int .i64 d.tt, .int .i64 d.tg, .slice Ac d.closed.length cc, .int .i64 d.start, .int .i64 d.sum, .int .i64 x.day, .int .i64 x.held]]) [] Tryz.func82 rfl (by rw [Tryz.ntmps82]; simp) (by simp) ?_
  refine cj_seq (cj_region ?_)
  refine oj_box rfl rfl rfl (fun b1 => ?_)
  refine oj_step (y_assign rfl) rfl rfl rfl ?_
  refine oj_nil ?_
  refine ej_th (cj_seq ?_)
  refine cj_regionG (gj_step (y_fa0 fa84_0 rfl) rfl rfl rfl (gj_step (y_fa fa42_3 rfl) rfl rfl rfl (gj_step (y_load1 Tryz.isAgg3 rfl rfl) rfl rfl rfl (gj_step (y_fa fa84_2 rfl) rfl rfl rfl (gj_step (y_fa fa28_1 rfl) rfl rfl rfl (gj_step (y_fa fa25_3 rfl) rfl rfl rfl (gj_step (y_load1 Tryz.isAgg3 rfl rfl) rfl rfl rfl (gj_step (y_fa fa84_2 rfl) rfl rfl rfl (gj_step (y_fa fa28_1 rfl) rfl rfl rfl (gj_step (y_fa fa25_4 rfl) rfl rfl rfl (gj_step (y_load1 Tryz.isAgg3 rfl rfl) rfl rfl rfl (gj_step (y_add rfl rfl (by omega)) rfl rfl rfl (gj_step (y_gtr rfl rfl) rfl rfl rfl (gj_step (y_assign rfl) rfl rfl rfl (gj_nil ?_)))))))))))))))
  refine ej_th (cj_ret ?_)
  exact ej_ret1 rfl Tryz.results82 rfl (fun w' hp => ⟨rfl, hp.below⟩)

theorem k_to (d : Deal) (Ac : Option Addr) (cc : Nat) (x : Ln) (b : Nat) (day : Int) (w : World) (hob : w.heap[b]? = some (cellsB 84 (encLn d Ac cc x))) (hc : RdX w b 1 enInt Ac d.closed) (hd : DealOk d) (hx : LOk x) (hday : day ≤ 36500) : Calls Tryz.prog 57 #[.pointer (some ⟨b, 0, none⟩), .int .i64 day] w (fun e w' => e = .returned (.tuple #[]) ∧ Mut (ownB b (cellsB 84 (encLn d Ac cc x))) w w' ∧ w'.heap[b]? = some (cellsB 84 (encLn d Ac cc (toL d x day)))) := by
  refine enter_own (args := [.pointer (some ⟨b, 0, none⟩), .int .i64 day]) b (cellsB 84 (encLn d Ac cc x)) [sl (fun i => i < w.heap.size ∧ i ≠ b) 1 enInt Ac d.closed] Tryz.func57 rfl (by rw [Tryz.ntmps57]; simp) hob (fun g hg => by simp at hg; subst hg; exact ⟨hc, fun _ h => h⟩) ?_
  refine cj_seq (cj_region ?_)
  refine oj_step (y_move rfl) rfl rfl rfl ?_
  refine oj_step (y_nil rfl) rfl rfl rfl ?_
  refine oj_step (y_fa fa84_1 rfl) rfl rfl rfl ?_
  refine oj_step (y_loadN Tryz.isAgg82 Tryz.sizeOf82 rfl) rfl rfl rfl ?_
  refine oj_alloc Tryz.zeroValue82 rfl rfl (fun b4 => ?_)
  refine oj_store rfl rfl rfl rfl Tryz.sizeOf82 rfl ?_
  refine oj_nil ?_
  refine ej_th (cj_seq (cj_block ?_))
  refine cj_lp (X := Ln) (fun y => LOk y ∧ goN d (day - y.day).toNat y = goN d (day - x.day).toNat x) (fun y => [(0, .pointer (some ⟨b, 0, none⟩)), (1, .int .i64 day), (4, .pointer (some ⟨b4, 0, none⟩))]) (fun y => [ownB b4 (cellsB 82 [.int .i64 x.all, .int .i64 x.dear, .int .i64 x.days, .int .i64 x.fees]), ownB b (cellsB 84 (encLn d Ac cc y))]) (fun y => [sl (fun i => i < w.heap.size ∧ i ≠ b) 1 enInt Ac d.closed]) (fun y => (day - y.day).toNat) x (⟨hx, rfl⟩) ⟨rfl, rfl, rfl, trivial⟩ ?_
  rintro y ⟨hy, hl⟩
  have hy0 := hy
  refine cj_seq (cj_seq ?_)
  refine cj_regionG (gj_step (y_move rfl) rfl rfl rfl (gj_step (y_nil rfl) rfl rfl rfl (gj_step (y_fa fa84_3 rfl) rfl rfl rfl (gj_step (y_load1 Tryz.isAgg3 rfl rfl) rfl rfl rfl (gj_step (y_move rfl) rfl rfl rfl (gj_step (y_lss rfl rfl) rfl rfl rfl (gj_nil ?_)))))))
  refine ej_th ?_
  refine cj_cond rfl (fun h14 => ?_) (fun h14 => ?_)
  · have h14b := h14
    try simp only [sxb] at h14
    have hs := hy.step (d := d) (by omega)
    obtain ⟨g1, g2, g3, g4, g5, g6, g7, g8, g9⟩ := hy
    rw [show (day - y.day).toNat = (day - (y.day + 1)).toNat + 1 by omega, goN] at hl
    refine cj_skip (ej_th (cj_seq (cj_block (cj_seq (cj_seq ?_)))))
    refine cj_draw (by kernel_rfl) (by kernel_rfl) ?_
    refine gj_step (y_move rfl) rfl rfl rfl (gj_step (y_nil rfl) rfl rfl rfl (gj_step (y_loadN Tryz.isAgg84 Tryz.sizeOf84 rfl) rfl rfl rfl (gj_step (y_move rfl) rfl rfl rfl (gj_step (y_nil rfl) rfl rfl rfl (gj_step (y_fa fa84_3 rfl) rfl rfl rfl (gj_step (y_load1 Tryz.isAgg3 rfl rfl) rfl rfl rfl (gj_step (y_add rfl rfl (by omega)) rfl rfl rfl (?_))))))))
    refine gj_step (y_call Tryz.call92 rfl (fun w hp => k_counts d Ac cc y (y.day + 1) w hp.rd)) rfl rfl rfl ?_
    refine gj_step (y_not rfl) rfl rfl rfl (?_)
    refine gj_nil ?_
    refine ej_th ?_
    refine cj_cond rfl (fun h31 => ?_) (fun h31 => ?_)
    · have h31b := h31
      try simp only [sxb] at h31
      have hcb : countsB d y (y.day + 1) = false := not_t h31b
      refine cj_exit (ej_then_exit (ej_blk_hit (ej_th (cj_region ?_))))
      refine oj_step (y_move rfl) rfl rfl rfl ?_
      refine oj_step (y_nil rfl) rfl rfl rfl ?_
      refine oj_step (y_fa fa84_3 rfl) rfl rfl rfl ?_
      refine oj_step (y_load1 Tryz.isAgg3 rfl rfl) rfl rfl rfl ?_
      refine oj_step (y_add rfl rfl (by omega)) rfl rfl rfl ?_
      refine oj_step (y_nil rfl) rfl rfl rfl ?_
      refine oj_step (y_fa fa84_3 rfl) rfl rfl rfl ?_
      refine oj_store rfl rfl rfl rfl Tryz.sizeOf3 rfl ?_
      refine oj_nil ?_
      have he : stepDay d y = { y with day := y.day + 1 } := by simp [stepDay, hcb]
      rw [he] at hs hl
      exact ej_nx { y with day := y.day + 1 } (by simp only; omega) ⟨hs, hl⟩ ⟨rfl, rfl, rfl, trivial⟩
    · have h31b := h31
      try simp only [sxb] at h31
      have hcb : countsB d y (y.day + 1) = true := not_f h31b
      refine cj_skip (ej_th (cj_seq (cj_region ?_)))
      refine oj_step (y_move rfl) rfl rfl rfl ?_
      refine oj_step (y_nil rfl) rfl rfl rfl ?_
      refine oj_step (y_fa fa84_1 rfl) rfl rfl rfl ?_
      refine oj_step (y_fa fa82_2 rfl) rfl rfl rfl ?_
      refine oj_step (y_load1 Tryz.isAgg3 rfl rfl) rfl rfl rfl ?_
      refine oj_step (y_add rfl rfl (by omega)) rfl rfl rfl ?_
      refine oj_step (y_nil rfl) rfl rfl rfl ?_
      refine oj_step (y_fa fa84_1 rfl) rfl rfl rfl ?_
      refine oj_step (y_fa fa82_2 rfl) rfl rfl rfl ?_
      refine oj_store rfl rfl rfl rfl Tryz.sizeOf3 rfl ?_
      refine oj_nil ?_
      refine ej_th (cj_seq (cj_region ?_))
      refine oj_step (y_move rfl) rfl rfl rfl ?_
      refine oj_step (y_nil rfl) rfl rfl rfl ?_
      refine oj_step (y_fa0 fa84_0 rfl) rfl rfl rfl ?_
      refine oj_step (y_fa fa42_3 rfl) rfl rfl rfl ?_
      refine oj_step (y_load1 Tryz.isAgg3 rfl rfl) rfl rfl rfl ?_
      refine oj_step (y_add rfl rfl (by omega)) rfl rfl rfl ?_
      refine oj_step (y_nil rfl) rfl rfl rfl ?_
      refine oj_step (y_fa0 fa84_0 rfl) rfl rfl rfl ?_
      refine oj_step (y_fa fa42_3 rfl) rfl rfl rfl ?_
      refine oj_store rfl rfl rfl rfl Tryz.sizeOf3 rfl ?_
      refine oj_nil ?_
      refine ej_th (cj_seq ?_)
      refine cj_plan 15 (by kernel_rfl) (by kernel_rfl) ?_
      refine pl_y 0 rfl (y_move rfl) rfl rfl rfl rfl (by kernel_rfl) ?_
      refine pl_y 1 rfl (y_nil rfl) rfl rfl rfl rfl (by kernel_rfl) ?_
      refine pl_y 2 rfl (y_fa fa84_1 rfl) rfl rfl rfl rfl (by kernel_rfl) ?_
      refine pl_y 3 rfl (y_fa0 fa82_0 rfl) rfl rfl rfl rfl (by kernel_rfl) ?_
      refine pl_y 4 rfl (y_load1 Tryz.isAgg3 rfl rfl) rfl rfl rfl rfl (by kernel_rfl) ?_
      refine pl_y 5 rfl (y_move rfl) rfl rfl rfl rfl (by kernel_rfl) ?_
      refine pl_y 6 rfl (y_nil rfl) rfl rfl rfl rfl (by kernel_rfl) ?_
      refine pl_y 7 rfl (y_fa0 fa84_0 rfl) rfl rfl rfl rfl (by kernel_rfl) ?_
      refine pl_y 8 rfl (y_fa0 fa42_0 rfl) rfl rfl rfl rfl (by kernel_rfl) ?_
      refine pl_y 9 rfl (y_load1 Tryz.isAgg3 rfl rfl) rfl rfl rfl rfl (by kernel_rfl) ?_
      refine pl_y 10 rfl (y_add rfl rfl (by omega)) rfl rfl rfl rfl (by kernel_rfl) ?_
      refine pl_y 11 rfl (y_nil rfl) rfl rfl rfl rfl (by kernel_rfl) ?_
      refine pl_y 12 rfl (y_fa fa84_1 rfl) rfl rfl rfl rfl (by kernel_rfl) ?_
      refine pl_y 13 rfl (y_fa0 fa82_0 rfl) rfl rfl rfl rfl (by kernel_rfl) ?_
      refine pl_w1 14 (by kernel_rfl) rfl rfl (pl_fire rfl rfl rfl (by kernel_rfl) ?_)
      refine oj_store rfl rfl rfl rfl Tryz.sizeOf3 rfl ?_
      refine oj_nil ?_
      refine ej_pl (lt_w (by kernel_rfl) (lt_y (y_fa fa84_1 rfl) rfl (lt_y (y_nil rfl) rfl (lt_w (by kernel_rfl) (lt_w (by kernel_rfl) (lt_w (by kernel_rfl) (lt_w (by kernel_rfl) (lt_w (by kernel_rfl) (lt_w (by kernel_rfl) (lt_w (by kernel_rfl) (lt_w (by kernel_rfl) (lt_w (by kernel_rfl) (lt_w (by kernel_rfl) (lt_w (by kernel_rfl) (lt_nil))))))))))))))) ?_
      refine pl_end (by kernel_rfl) ?_
      refine ej_th (cj_seq ?_)
      refine cj_draw (by kernel_rfl) (by kernel_rfl) (gj_step (y_move rfl) rfl rfl rfl (gj_step (y_nil rfl) rfl rfl rfl (gj_step (y_fa fa84_1 rfl) rfl rfl rfl (gj_step (y_fa fa82_2 rfl) rfl rfl rfl (gj_step (y_load1 Tryz.isAgg3 rfl rfl) rfl rfl rfl (gj_step (y_move rfl) rfl rfl rfl (gj_step (y_nil rfl) rfl rfl rfl (gj_step (y_fa fa84_2 rfl) rfl rfl rfl (gj_step (y_fa fa28_1 rfl) rfl rfl rfl (gj_step (y_fa fa25_1 rfl) rfl rfl rfl (gj_step (y_load1 Tryz.isAgg3 rfl rfl) rfl rfl rfl (gj_step (y_gtr rfl rfl) rfl rfl rfl (gj_nil ?_)))))))))))))
      refine ej_th ?_
      refine cj_cond rfl (fun h75 => ?_) (fun h75 => ?_)
      · have h75b := h75
        try simp only [sxb] at h75
        refine cj_plan 15 (by kernel_rfl) (by kernel_rfl) ?_
        refine pl_y 0 rfl (y_move rfl) rfl rfl rfl rfl (by kernel_rfl) ?_
        refine pl_y 1 rfl (y_nil rfl) rfl rfl rfl rfl (by kernel_rfl) ?_
        refine pl_y 2 rfl (y_fa fa84_1 rfl) rfl rfl rfl rfl (by kernel_rfl) ?_
        refine pl_y 3 rfl (y_fa fa82_1 rfl) rfl rfl rfl rfl (by kernel_rfl) ?_
        refine pl_y 4 rfl (y_load1 Tryz.isAgg3 rfl rfl) rfl rfl rfl rfl (by kernel_rfl) ?_
        refine pl_y 5 rfl (y_move rfl) rfl rfl rfl rfl (by kernel_rfl) ?_
        refine pl_y 6 rfl (y_nil rfl) rfl rfl rfl rfl (by kernel_rfl) ?_
        refine pl_y 7 rfl (y_fa0 fa84_0 rfl) rfl rfl rfl rfl (by kernel_rfl) ?_
        refine pl_y 8 rfl (y_fa0 fa42_0 rfl) rfl rfl rfl rfl (by kernel_rfl) ?_
        refine pl_y 9 rfl (y_load1 Tryz.isAgg3 rfl rfl) rfl rfl rfl rfl (by kernel_rfl) ?_
        refine pl_y 10 rfl (y_add rfl rfl (by omega)) rfl rfl rfl rfl (by kernel_rfl) ?_
        refine pl_y 11 rfl (y_nil rfl) rfl rfl rfl rfl (by kernel_rfl) ?_
        refine pl_y 12 rfl (y_fa fa84_1 rfl) rfl rfl rfl rfl (by kernel_rfl) ?_
        refine pl_y 13 rfl (y_fa fa82_1 rfl) rfl rfl rfl rfl (by kernel_rfl) ?_
        refine pl_w1 14 (by kernel_rfl) rfl rfl (pl_fire rfl rfl rfl (by kernel_rfl) ?_)
        refine oj_store rfl rfl rfl rfl Tryz.sizeOf3 rfl ?_
        refine oj_nil ?_
        refine ej_pl (lt_w (by kernel_rfl) (lt_y (y_fa fa84_1 rfl) rfl (lt_y (y_nil rfl) rfl (lt_w (by kernel_rfl) (lt_w (by kernel_rfl) (lt_w (by kernel_rfl) (lt_w (by kernel_rfl) (lt_w (by kernel_rfl) (lt_w (by kernel_rfl) (lt_w (by kernel_rfl) (lt_w (by kernel_rfl) (lt_w (by kernel_rfl) (lt_w (by kernel_rfl) (lt_w (by kernel_rfl) (lt_nil))))))))))))))) ?_
        refine pl_end (by kernel_rfl) ?_
        refine ej_blk (ej_th (cj_region ?_))
        refine oj_step (y_move rfl) rfl rfl rfl ?_
        refine oj_step (y_nil rfl) rfl rfl rfl ?_
        refine oj_step (y_fa fa84_3 rfl) rfl rfl rfl ?_
        refine oj_step (y_load1 Tryz.isAgg3 rfl rfl) rfl rfl rfl ?_
        refine oj_step (y_add rfl rfl (by omega)) rfl rfl rfl ?_
        refine oj_step (y_nil rfl) rfl rfl rfl ?_
        refine oj_step (y_fa fa84_3 rfl) rfl rfl rfl ?_
        refine oj_store rfl rfl rfl rfl Tryz.sizeOf3 rfl ?_
        refine oj_nil ?_
        have he : stepDay d y = { y with days := y.days + 1, ag := y.ag + 1, all := y.all + y.pr, dear := y.dear + y.pr, day := y.day + 1 } := by simp [stepDay, counted, hcb, show d.tf < y.days + 1 by omega]
        rw [he] at hs hl
        exact ej_nx { y with days := y.days + 1, ag := y.ag + 1, all := y.all + y.pr, dear := y.dear + y.pr, day := y.day + 1 } (by simp only; omega) ⟨hs, hl⟩ ⟨rfl, rfl, rfl, trivial⟩
      · have h75b := h75
        try simp only [sxb] at h75
        refine cj_skip (ej_blk (ej_th (cj_region ?_)))
        refine oj_step (y_move rfl) rfl rfl rfl ?_
        refine oj_step (y_nil rfl) rfl rfl rfl ?_
        refine oj_step (y_fa fa84_3 rfl) rfl rfl rfl ?_
        refine oj_step (y_load1 Tryz.isAgg3 rfl rfl) rfl rfl rfl ?_
        refine oj_step (y_add rfl rfl (by omega)) rfl rfl rfl ?_
        refine oj_step (y_nil rfl) rfl rfl rfl ?_
        refine oj_step (y_fa fa84_3 rfl) rfl rfl rfl ?_
        refine oj_store rfl rfl rfl rfl Tryz.sizeOf3 rfl ?_
        refine oj_nil ?_
        have he : stepDay d y = { y with days := y.days + 1, ag := y.ag + 1, all := y.all + y.pr, day := y.day + 1 } := by simp [stepDay, counted, hcb, show ¬ d.tf < y.days + 1 by omega]
        rw [he] at hs hl
        exact ej_nx { y with days := y.days + 1, ag := y.ag + 1, all := y.all + y.pr, day := y.day + 1 } (by simp only; omega) ⟨hs, hl⟩ ⟨rfl, rfl, rfl, trivial⟩
  · have h14b := h14
    try simp only [sxb] at h14
    rw [show (day - y.day).toNat = 0 by omega, goN] at hl
    refine cj_exit (ej_then_exit (ej_then_exit (ej_blk_hit (ej_th (cj_seq ?_)))))
    refine cj_draw (by kernel_rfl) (by kernel_rfl) (gj_step (y_move rfl) rfl rfl rfl (gj_step (y_nil rfl) rfl rfl rfl (gj_step (y_fa fa84_1 rfl) rfl rfl rfl (gj_step (y_loadN Tryz.isAgg82 Tryz.sizeOf82 rfl) rfl rfl rfl (gj_step (y_loadN Tryz.isAgg82 Tryz.sizeOf82 rfl) rfl rfl rfl (gj_step (y_bin rfl rfl (fun x y w => ne82 _ _ _ _ _ _ _ _ x y w)) rfl rfl rfl (gj_nil ?_)))))))
    refine ej_th ?_
    refine cj_cond rfl (fun h95 => ?_) (fun h95 => ?_)
    · have h95b := h95
      try simp only [sxb] at h95
      refine cj_region ?_
      refine oj_step (y_move rfl) rfl rfl rfl ?_
      refine oj_step (y_move rfl) rfl rfl rfl ?_
      refine oj_step (y_nil rfl) rfl rfl rfl ?_
      refine oj_step (y_loadN Tryz.isAgg84 Tryz.sizeOf84 rfl) rfl rfl rfl ?_
      refine oj_step (y_call Tryz.call93 rfl (fun w hp => k_charge d Ac cc y w hd hy0)) rfl rfl rfl ?_
      refine oj_step (y_nil rfl) rfl rfl rfl ?_
      refine oj_step (y_fa0 fa84_0 rfl) rfl rfl rfl ?_
      refine oj_step (y_fa fa42_1 rfl) rfl rfl rfl ?_
      refine oj_store rfl rfl rfl rfl Tryz.sizeOf3 rfl ?_
      refine oj_nil ?_
      have ht : toL d x day = { y with ch := chargeOf d y } := by unfold toL; rw [← hl, if_pos (show sumsNe y x = true from h95b)]
      rw [ht]
      exact ej_end0 rfl Tryz.results57 (fun w' hp => ⟨rfl, hp.mut, hp.own1⟩)
    · have h95b := h95
      try simp only [sxb] at h95
      refine cj_skip ?_
      have ht : toL d x day = y := by unfold toL; rw [← hl, if_neg (by rw [show sumsNe y x = false from h95b]; simp)]
      rw [ht]
      exact ej_end0 rfl Tryz.results57 (fun w' hp => ⟨rfl, hp.mut, hp.own1⟩)

end Go.Proofs.YtppfniekcgnmjaaGreatDoor.Ln
namespace Go.Proofs.YtppfniekcgnmjaaGreatDoor.Ln
open Go.Sx Go.RowKit

end Go.Proofs.YtppfniekcgnmjaaGreatDoor.Ln
namespace Go.Proofs.YtppfniekcgnmjaaGreatDoor.Ln
open Go.Sx Go.RowKit
set_option maxRecDepth 20000
theorem k_renew (d : Deal) (Ac : Option Addr) (cc : Nat) (x : Ln) (b : Nat) (n : Int) (w : World) (hob : w.heap[b]? = some (cellsB 84 (encLn d Ac cc x))) (hd : DealOk d) (hx : LOk x) (hf : x.fees ≤ 999990000) : Calls Tryz.prog 230 #[.pointer (some ⟨b, 0, none⟩), .int .i64 n] w (fun e w' => e = .returned (.int .i64 0) ∧ Mut (ownB b (cellsB 84 (encLn d Ac cc x))) w w' ∧ w'.heap[b]? = some (cellsB 84 (encLn d Ac cc (renewL d x)))) := by
  have h1 := hx.fees
  have h2 := hd.te
  have hx2 := feeL_ok hd hx hf
  refine enter_own (args := [.pointer (some ⟨b, 0, none⟩), .int .i64 n]) b (cellsB 84 (encLn d Ac cc x)) [] Tryz.func230 rfl (by rw [Tryz.ntmps230]; simp) hob (by simp) ?_
  refine cj_seq ?_
  refine cj_regionG (gj_step (y_assign rfl) rfl rfl rfl (gj_nil ?_))
  refine ej_th (cj_seq ?_)
  refine cj_plan 16 (by kernel_rfl) (by kernel_rfl) ?_
  refine pl_y 0 rfl (y_move rfl) rfl rfl rfl rfl (by kernel_rfl) ?_
  refine pl_y 1 rfl (y_nil rfl) rfl rfl rfl rfl (by kernel_rfl) ?_
  refine pl_y 2 rfl (y_fa fa84_1 rfl) rfl rfl rfl rfl (by kernel_rfl) ?_
  refine pl_y 3 rfl (y_fa fa82_3 rfl) rfl rfl rfl rfl (by kernel_rfl) ?_
  refine pl_y 4 rfl (y_load1 Tryz.isAgg3 rfl rfl) rfl rfl rfl rfl (by kernel_rfl) ?_
  refine pl_y 5 rfl (y_move rfl) rfl rfl rfl rfl (by kernel_rfl) ?_
  refine pl_y 6 rfl (y_nil rfl) rfl rfl rfl rfl (by kernel_rfl) ?_
  refine pl_y 7 rfl (y_fa fa84_2 rfl) rfl rfl rfl rfl (by kernel_rfl) ?_
  refine pl_y 8 rfl (y_fa fa28_1 rfl) rfl rfl rfl rfl (by kernel_rfl) ?_
  refine pl_y 9 rfl (y_fa fa25_2 rfl) rfl rfl rfl rfl (by kernel_rfl) ?_
  refine pl_y 10 rfl (y_load1 Tryz.isAgg3 rfl rfl) rfl rfl rfl rfl (by kernel_rfl) ?_
  refine pl_y 11 rfl (y_add rfl rfl (by omega)) rfl rfl rfl rfl (by kernel_rfl) ?_
  refine pl_y 12 rfl (y_nil rfl) rfl rfl rfl rfl (by kernel_rfl) ?_
  refine pl_y 13 rfl (y_fa fa84_1 rfl) rfl rfl rfl rfl (by kernel_rfl) ?_
  refine pl_y 14 rfl (y_fa fa82_3 rfl) rfl rfl rfl rfl (by kernel_rfl) ?_
  refine pl_w1 15 (by kernel_rfl) rfl rfl (pl_fire rfl rfl rfl (by kernel_rfl) ?_)
  refine oj_store rfl rfl rfl rfl Tryz.sizeOf3 rfl ?_
  refine oj_nil ?_
  refine ej_pl (lt_w (by kernel_rfl) (lt_y (y_fa fa84_1 rfl) rfl (lt_y (y_nil rfl) rfl (lt_w (by kernel_rfl) (lt_w (by kernel_rfl) (lt_w (by kernel_rfl) (lt_w (by kernel_rfl) (lt_w (by kernel_rfl) (lt_w (by kernel_rfl) (lt_w (by kernel_rfl) (lt_w (by kernel_rfl) (lt_w (by kernel_rfl) (lt_w (by kernel_rfl) (lt_w (by kernel_rfl) (lt_w (by kernel_rfl) (lt_nil)))))))))))))))) ?_
  refine pl_end (by kernel_rfl) ?_
  refine ej_th (cj_seq (cj_region ?_))
  refine oj_step (y_move rfl) rfl rfl rfl ?_
  refine oj_step (y_move rfl) rfl rfl rfl ?_
  refine oj_step (y_nil rfl) rfl rfl rfl ?_
  refine oj_step (y_loadN Tryz.isAgg84 Tryz.sizeOf84 rfl) rfl rfl rfl ?_
  refine oj_step (y_call Tryz.call93 rfl (fun w hp => k_charge d Ac cc (feeL d x) w hd hx2)) rfl rfl rfl ?_
  refine oj_step (y_nil rfl) rfl rfl rfl ?_
  refine oj_step (y_fa0 fa84_0 rfl) rfl rfl rfl ?_
  refine oj_step (y_fa fa42_1 rfl) rfl rfl rfl ?_
  refine oj_store rfl rfl rfl rfl Tryz.sizeOf3 rfl ?_
  refine oj_nil ?_
  refine ej_th (cj_seq (cj_region ?_))
  refine oj_step (y_move rfl) rfl rfl rfl ?_
  refine oj_step (y_move rfl) rfl rfl rfl ?_
  refine oj_step (y_move rfl) rfl rfl rfl ?_
  refine oj_step (y_nil rfl) rfl rfl rfl ?_
  refine oj_step (y_fa0 fa84_0 rfl) rfl rfl rfl ?_
  refine oj_step (y_fa fa42_1 rfl) rfl rfl rfl ?_
  refine oj_step (y_load1 Tryz.isAgg3 rfl rfl) rfl rfl rfl ?_
  refine oj_step (y_nil rfl) rfl rfl rfl ?_
  refine oj_step (y_fa0 fa84_0 rfl) rfl rfl rfl ?_
  refine oj_step (y_fa fa42_2 rfl) rfl rfl rfl ?_
  refine oj_store rfl rfl rfl rfl Tryz.sizeOf3 rfl ?_
  refine oj_step (y_nil rfl) rfl rfl rfl ?_
  refine oj_step (y_fa0 fa84_0 rfl) rfl rfl rfl ?_
  refine oj_step (y_fa fa42_3 rfl) rfl rfl rfl ?_
  refine oj_store rfl rfl rfl rfl Tryz.sizeOf3 rfl ?_
  refine oj_nil ?_
  refine ej_th (cj_seq ?_)
  refine cj_regionG (gj_step (y_assign rfl) rfl rfl rfl (gj_nil ?_))
  refine ej_th (cj_ret ?_)
  exact ej_ret1 rfl Tryz.results230 rfl (fun w' hp => ⟨rfl, hp.mut, hp.own1⟩)

theorem k_pay (d : Deal) (Ac : Option Addr) (cc : Nat) (x : Ln) (b : Nat) (n : Int) (w : World) (hob : w.heap[b]? = some (cellsB 84 (encLn d Ac cc x))) (hx : LOk x) (hn : 1 ≤ n ∧ n ≤ 1073741824) : Calls Tryz.prog 229 #[.pointer (some ⟨b, 0, none⟩), .int .i64 n] w (fun e w' => e = .returned (.int .i64 (payE x n)) ∧ Mut (ownB b (cellsB 84 (encLn d Ac cc x))) w w' ∧ w'.heap[b]? = some (cellsB 84 (encLn d Ac cc (payL x n)))) := by
  obtain ⟨g1, g2, g3, g4, g5, g6, g7, g8, g9⟩ := hx
  refine enter_own (args := [.pointer (some ⟨b, 0, none⟩), .int .i64 n]) b (cellsB 84 (encLn d Ac cc x)) [] Tryz.func229 rfl (by rw [Tryz.ntmps229]; simp) hob (by simp) ?_
  refine cj_seq ?_
  refine cj_regionG (gj_step (y_assign rfl) rfl rfl rfl (gj_nil ?_))
  refine ej_th (cj_seq ?_)
  refine cj_draw (by kernel_rfl) (by kernel_rfl) (gj_step (y_move rfl) rfl rfl rfl (gj_step (y_nil rfl) rfl rfl rfl (gj_step (y_fa0 fa84_0 rfl) rfl rfl rfl (gj_step (y_fa fa42_1 rfl) rfl rfl rfl (gj_step (y_load1 Tryz.isAgg3 rfl rfl) rfl rfl rfl (gj_step (y_move rfl) rfl rfl rfl (gj_step (y_nil rfl) rfl rfl rfl (gj_step (y_fa0 fa84_0 rfl) rfl rfl rfl (gj_step (y_fa fa42_2 rfl) rfl rfl rfl (gj_step (y_load1 Tryz.isAgg3 rfl rfl) rfl rfl rfl (gj_step (y_sub rfl rfl (by omega)) rfl rfl rfl (gj_step (y_assign rfl) rfl rfl rfl (gj_nil ?_)))))))))))))
  refine ej_th (cj_seq (cj_seq ?_))
  refine cj_regionG (gj_step (y_move rfl) rfl rfl rfl (gj_step (y_move rfl) rfl rfl rfl (gj_step (y_move rfl) rfl rfl rfl (gj_step (y_nil rfl) rfl rfl rfl (gj_step (y_fa0 fa84_0 rfl) rfl rfl rfl (gj_step (y_fa0 fa42_0 rfl) rfl rfl rfl (gj_step (y_load1 Tryz.isAgg3 rfl rfl) rfl rfl rfl (gj_step (y_add rfl rfl (by omega)) rfl rfl rfl (gj_step (y_geq rfl rfl) rfl rfl rfl (gj_nil ?_))))))))))
  refine ej_th ?_
  refine cj_cond rfl (fun h25 => ?_) (fun h25 => ?_)
  · have h25b := h25
    try simp only [sxb] at h25
    refine cj_seq ?_
    refine cj_regionG (gj_step (y_assign rfl) rfl rfl rfl (gj_nil ?_))
    refine ej_th (cj_ret (ej_then_ret ?_))
    rw [payE, payL, if_pos h25, if_pos h25]
    exact ej_ret1 rfl Tryz.results229 rfl (fun w' hp => ⟨rfl, hp.mut, hp.own1⟩)
  · have h25b := h25
    try simp only [sxb] at h25
    refine cj_skip (ej_th (cj_seq (cj_region ?_)))
    refine oj_step (y_move rfl) rfl rfl rfl ?_
    refine oj_step (y_nil rfl) rfl rfl rfl ?_
    refine oj_step (y_fa0 fa84_0 rfl) rfl rfl rfl ?_
    refine oj_step (y_fa fa42_2 rfl) rfl rfl rfl ?_
    refine oj_step (y_load1 Tryz.isAgg3 rfl rfl) rfl rfl rfl ?_
    refine oj_step (y_move rfl) rfl rfl rfl ?_
    refine oj_step (y_move rfl) rfl rfl rfl ?_
    refine oj_step (y_min rfl rfl) rfl rfl rfl ?_
    refine oj_step (y_add rfl rfl (by omega)) rfl rfl rfl ?_
    refine oj_step (y_nil rfl) rfl rfl rfl ?_
    refine oj_step (y_fa0 fa84_0 rfl) rfl rfl rfl ?_
    refine oj_step (y_fa fa42_2 rfl) rfl rfl rfl ?_
    refine oj_store rfl rfl rfl rfl Tryz.sizeOf3 rfl ?_
    refine oj_nil ?_
    refine ej_th (cj_seq (cj_region ?_))
    refine oj_step (y_move rfl) rfl rfl rfl ?_
    refine oj_step (y_nil rfl) rfl rfl rfl ?_
    refine oj_step (y_fa0 fa84_0 rfl) rfl rfl rfl ?_
    refine oj_step (y_fa0 fa42_0 rfl) rfl rfl rfl ?_
    refine oj_step (y_load1 Tryz.isAgg3 rfl rfl) rfl rfl rfl ?_
    refine oj_step (y_move rfl) rfl rfl rfl ?_
    refine oj_step (y_move rfl) rfl rfl rfl ?_
    refine oj_step (y_sub rfl rfl (by omega)) rfl rfl rfl ?_
    refine oj_step (y_max rfl rfl) rfl rfl rfl ?_
    refine oj_step (y_sub rfl rfl (by omega)) rfl rfl rfl ?_
    refine oj_step (y_nil rfl) rfl rfl rfl ?_
    refine oj_step (y_fa0 fa84_0 rfl) rfl rfl rfl ?_
    refine oj_step (y_fa0 fa42_0 rfl) rfl rfl rfl ?_
    refine oj_store rfl rfl rfl rfl Tryz.sizeOf3 rfl ?_
    refine oj_nil ?_
    refine ej_th (cj_seq ?_)
    refine cj_regionG (gj_step (y_assign rfl) rfl rfl rfl (gj_nil ?_))
    refine ej_th (cj_ret ?_)
    rw [payE, payL, if_neg (by omega), if_neg (by omega)]
    exact ej_ret1 rfl Tryz.results229 rfl (fun w' hp => ⟨rfl, hp.mut, hp.own1⟩)

theorem k_hold (d : Deal) (Ac : Option Addr) (cc : Nat) (x : Ln) (b : Nat) (n : Int) (w : World) (hob : w.heap[b]? = some (cellsB 84 (encLn d Ac cc x))) (hx : LOk x) (hn : 1 ≤ n ∧ n ≤ 366) : Calls Tryz.prog 231 #[.pointer (some ⟨b, 0, none⟩), .int .i64 n] w (fun e w' => e = .returned (.int .i64 (holdE x)) ∧ Mut (ownB b (cellsB 84 (encLn d Ac cc x))) w w' ∧ w'.heap[b]? = some (cellsB 84 (encLn d Ac cc (holdL x n)))) := by
  have g2 := hx.day
  refine enter_own (args := [.pointer (some ⟨b, 0, none⟩), .int .i64 n]) b (cellsB 84 (encLn d Ac cc x)) [] Tryz.func231 rfl (by rw [Tryz.ntmps231]; simp) hob (by simp) ?_
  refine cj_seq ?_
  refine cj_regionG (gj_step (y_assign rfl) rfl rfl rfl (gj_nil ?_))
  refine ej_th (cj_seq (cj_seq ?_))
  refine cj_draw (by kernel_rfl) (by kernel_rfl) (gj_step (y_move rfl) rfl rfl rfl (gj_step (y_nil rfl) rfl rfl rfl (gj_step (y_fa fa84_3 rfl) rfl rfl rfl (gj_step (y_load1 Tryz.isAgg3 rfl rfl) rfl rfl rfl (gj_step (y_add rfl rfl (by omega)) rfl rfl rfl (gj_step (y_move rfl) rfl rfl rfl (gj_step (y_nil rfl) rfl rfl rfl (gj_step (y_fa fa84_4 rfl) rfl rfl rfl (gj_step (y_load1 Tryz.isAgg3 rfl rfl) rfl rfl rfl (gj_step (y_leq rfl rfl) rfl rfl rfl (gj_nil ?_)))))))))))
  refine ej_th ?_
  refine cj_cond rfl (fun h14 => ?_) (fun h14 => ?_)
  · have h14b := h14
    try simp only [sxb] at h14
    refine cj_seq ?_
    refine cj_regionG (gj_step (y_assign rfl) rfl rfl rfl (gj_nil ?_))
    refine ej_th (cj_ret (ej_then_ret ?_))
    rw [holdE, holdL, if_pos h14, if_pos h14]
    exact ej_ret1 rfl Tryz.results231 rfl (fun w' hp => ⟨rfl, hp.mut, hp.own1⟩)
  · have h14b := h14
    try simp only [sxb] at h14
    refine cj_skip (ej_th (cj_seq (cj_region ?_)))
    refine oj_step (y_move rfl) rfl rfl rfl ?_
    refine oj_step (y_move rfl) rfl rfl rfl ?_
    refine oj_step (y_nil rfl) rfl rfl rfl ?_
    refine oj_step (y_fa fa84_3 rfl) rfl rfl rfl ?_
    refine oj_step (y_load1 Tryz.isAgg3 rfl rfl) rfl rfl rfl ?_
    refine oj_step (y_move rfl) rfl rfl rfl ?_
    refine oj_step (y_add rfl rfl (by omega)) rfl rfl rfl ?_
    refine oj_step (y_nil rfl) rfl rfl rfl ?_
    refine oj_step (y_fa fa84_4 rfl) rfl rfl rfl ?_
    refine oj_store rfl rfl rfl rfl Tryz.sizeOf3 rfl ?_
    refine oj_nil ?_
    refine ej_th (cj_seq ?_)
    refine cj_regionG (gj_step (y_assign rfl) rfl rfl rfl (gj_nil ?_))
    refine ej_th (cj_ret ?_)
    rw [holdE, holdL, if_neg (by omega), if_neg (by omega)]
    exact ej_ret1 rfl Tryz.results231 rfl (fun w' hp => ⟨rfl, hp.mut, hp.own1⟩)

theorem k_redeem (d : Deal) (Ac : Option Addr) (cc : Nat) (x : Ln) (b : Nat) (n : Int) (w : World) (hob : w.heap[b]? = some (cellsB 84 (encLn d Ac cc x)))  : Calls Tryz.prog 232 #[.pointer (some ⟨b, 0, none⟩), .int .i64 n] w (fun e w' => e = .returned (.int .i64 0) ∧ Mut (ownB b (cellsB 84 (encLn d Ac cc x))) w w' ∧ w'.heap[b]? = some (cellsB 84 (encLn d Ac cc (redeemL x)))) := by
  refine enter_own (args := [.pointer (some ⟨b, 0, none⟩), .int .i64 n]) b (cellsB 84 (encLn d Ac cc x)) [] Tryz.func232 rfl (by rw [Tryz.ntmps232]; simp) hob (by simp) ?_
  refine cj_seq ?_
  refine cj_regionG (gj_step (y_assign rfl) rfl rfl rfl (gj_nil ?_))
  refine ej_th (cj_seq (cj_region ?_))
  refine oj_step (y_move rfl) rfl rfl rfl ?_
  refine oj_step (y_move rfl) rfl rfl rfl ?_
  refine oj_step (y_move rfl) rfl rfl rfl ?_
  refine oj_step (y_move rfl) rfl rfl rfl ?_
  refine oj_step (y_nil rfl) rfl rfl rfl ?_
  refine oj_step (y_fa0 fa84_0 rfl) rfl rfl rfl ?_
  refine oj_step (y_fa fa42_1 rfl) rfl rfl rfl ?_
  refine oj_step (y_load1 Tryz.isAgg3 rfl rfl) rfl rfl rfl ?_
  refine oj_step (y_nil rfl) rfl rfl rfl ?_
  refine oj_step (y_fa0 fa84_0 rfl) rfl rfl rfl ?_
  refine oj_step (y_fa fa42_2 rfl) rfl rfl rfl ?_
  refine oj_store rfl rfl rfl rfl Tryz.sizeOf3 rfl ?_
  refine oj_step (y_nil rfl) rfl rfl rfl ?_
  refine oj_step (y_fa0 fa84_0 rfl) rfl rfl rfl ?_
  refine oj_step (y_fa0 fa42_0 rfl) rfl rfl rfl ?_
  refine oj_store rfl rfl rfl rfl Tryz.sizeOf3 rfl ?_
  refine oj_step (y_nil rfl) rfl rfl rfl ?_
  refine oj_step (y_fa0 fa84_0 rfl) rfl rfl rfl ?_
  refine oj_step (y_fa fa42_4 rfl) rfl rfl rfl ?_
  refine oj_store rfl rfl rfl rfl Tryz.sizeOf4 rfl ?_
  refine oj_nil ?_
  refine ej_th (cj_seq ?_)
  refine cj_regionG (gj_step (y_assign rfl) rfl rfl rfl (gj_nil ?_))
  refine ej_th (cj_ret ?_)
  exact ej_ret1 rfl Tryz.results232 rfl (fun w' hp => ⟨rfl, hp.mut, hp.own1⟩)

end Go.Proofs.YtppfniekcgnmjaaGreatDoor.Ln
namespace Go.Proofs.YtppfniekcgnmjaaGreatDoor.Ln
open Go.Sx Go.RowKit
set_option maxRecDepth 20000
theorem k_valid1 (n : Int) (w : World)  : Calls Tryz.prog 223 #[.agg #[], .int .i64 n] w (fun e w' => e = .returned (.bool (btw 1 n 1073741824)) ∧ Grow w w') := by
  refine enter_pure (args := [.agg #[], .int .i64 n]) [] Tryz.func223 rfl (by rw [Tryz.ntmps223]; simp) (by simp) ?_
  refine cj_seq (cj_region ?_)
  refine oj_box rfl rfl rfl (fun b2 => ?_)
  refine oj_step (y_assign rfl) rfl rfl rfl ?_
  refine oj_nil ?_
  refine ej_th (cj_seq ?_)
  refine cj_regionG ?_
  refine gj_step (y_move rfl) rfl rfl rfl (?_)
  refine gj_step (y_call Tryz.call56 rfl (fun w hp => k_within _ _ _ w)) rfl rfl rfl ?_
  refine gj_step (y_assign rfl) rfl rfl rfl (?_)
  refine gj_nil ?_
  refine ej_th (cj_ret ?_)
  exact ej_ret1 rfl Tryz.results223 rfl (fun w' hp => ⟨rfl, hp.below⟩)

theorem k_valid2 (n : Int) (w : World)  : Calls Tryz.prog 224 #[.agg #[], .int .i64 n] w (fun e w' => e = .returned (.bool (n == 0)) ∧ Grow w w') := by
  refine enter_pure (args := [.agg #[], .int .i64 n]) [] Tryz.func224 rfl (by rw [Tryz.ntmps224]; simp) (by simp) ?_
  refine cj_seq (cj_region ?_)
  refine oj_box rfl rfl rfl (fun b2 => ?_)
  refine oj_step (y_assign rfl) rfl rfl rfl ?_
  refine oj_nil ?_
  refine ej_th (cj_seq ?_)
  refine cj_regionG (gj_step (y_move rfl) rfl rfl rfl (gj_step (y_eql rfl rfl) rfl rfl rfl (gj_step (y_assign rfl) rfl rfl rfl (gj_nil ?_))))
  refine ej_th (cj_ret ?_)
  exact ej_ret1 rfl Tryz.results224 rfl (fun w' hp => ⟨rfl, hp.below⟩)

theorem k_valid3 (n : Int) (w : World)  : Calls Tryz.prog 225 #[.agg #[], .int .i64 n] w (fun e w' => e = .returned (.bool (btw 1 n 366)) ∧ Grow w w') := by
  refine enter_pure (args := [.agg #[], .int .i64 n]) [] Tryz.func225 rfl (by rw [Tryz.ntmps225]; simp) (by simp) ?_
  refine cj_seq (cj_region ?_)
  refine oj_box rfl rfl rfl (fun b2 => ?_)
  refine oj_step (y_assign rfl) rfl rfl rfl ?_
  refine oj_nil ?_
  refine ej_th (cj_seq ?_)
  refine cj_regionG ?_
  refine gj_step (y_move rfl) rfl rfl rfl (?_)
  refine gj_step (y_call Tryz.call56 rfl (fun w hp => k_within _ _ _ w)) rfl rfl rfl ?_
  refine gj_step (y_assign rfl) rfl rfl rfl (?_)
  refine gj_nil ?_
  refine ej_th (cj_ret ?_)
  exact ej_ret1 rfl Tryz.results225 rfl (fun w' hp => ⟨rfl, hp.below⟩)

theorem k_valid4 (n : Int) (w : World)  : Calls Tryz.prog 226 #[.agg #[], .int .i64 n] w (fun e w' => e = .returned (.bool (n == 0)) ∧ Grow w w') := by
  refine enter_pure (args := [.agg #[], .int .i64 n]) [] Tryz.func226 rfl (by rw [Tryz.ntmps226]; simp) (by simp) ?_
  refine cj_seq (cj_region ?_)
  refine oj_box rfl rfl rfl (fun b2 => ?_)
  refine oj_step (y_assign rfl) rfl rfl rfl ?_
  refine oj_nil ?_
  refine ej_th (cj_seq ?_)
  refine cj_regionG (gj_step (y_move rfl) rfl rfl rfl (gj_step (y_eql rfl rfl) rfl rfl rfl (gj_step (y_assign rfl) rfl rfl rfl (gj_nil ?_))))
  refine ej_th (cj_ret ?_)
  exact ej_ret1 rfl Tryz.results226 rfl (fun w' hp => ⟨rfl, hp.below⟩)

theorem k_deedOf (a : Act1) (w : World)  : Calls Tryz.prog 80 #[.agg #[.int .i64 a.day, .int .i64 a.kind, .int .i64 a.n]] w (fun e w' => e = .returned (deedV a.kind) ∧ Grow w w') := by
  refine enter_pure (args := [.agg #[.int .i64 a.day, .int .i64 a.kind, .int .i64 a.n]]) [] Tryz.func80 rfl (by rw [Tryz.ntmps80]; simp) (by simp) ?_
  refine cj_seq (cj_region ?_)
  refine oj_box rfl rfl rfl (fun b1 => ?_)
  refine oj_step (y_assign rfl) rfl rfl rfl ?_
  refine oj_nil ?_
  refine ej_th (cj_seq (cj_seq ?_))
  refine cj_regionG (gj_step (y_fa fa88_1 rfl) rfl rfl rfl (gj_step (y_load1 Tryz.isAgg3 rfl rfl) rfl rfl rfl (gj_nil ?_)))
  refine ej_th (cj_block (cj_seq ?_))
  refine cj_regionG (gj_step (y_eql rfl rfl) rfl rfl rfl (gj_step (y_assign rfl) rfl rfl rfl (gj_nil ?_)))
  refine ej_th ?_
  refine cj_cond rfl (fun h5 => ?_) (fun h5 => ?_)
  · have h5b := h5
    try simp only [sxb] at h5
    refine cj_seq ?_
    refine cj_regionG (gj_step (y_build st240 rfl rfl) rfl rfl rfl (gj_step (y_iface rfl (by kernel_rfl)) rfl rfl rfl (gj_step (y_assign rfl) rfl rfl rfl (gj_nil ?_))))
    refine ej_th (cj_ret (ej_blk_ret (ej_then_ret ?_)))
    refine ej_ret1 rfl Tryz.results80 rfl (fun w' hp => ⟨?_, hp.below⟩)
    rw [deedV, if_pos h5]
  · have h5b := h5
    try simp only [sxb] at h5
    refine cj_seq ?_
    refine cj_regionG (gj_step (y_eql rfl rfl) rfl rfl rfl (gj_step (y_assign rfl) rfl rfl rfl (gj_nil ?_)))
    refine ej_th ?_
    refine cj_cond rfl (fun h9 => ?_) (fun h9 => ?_)
    · have h9b := h9
      try simp only [sxb] at h9
      refine cj_seq ?_
      refine cj_regionG (gj_step (y_build st241 rfl rfl) rfl rfl rfl (gj_step (y_iface rfl (by kernel_rfl)) rfl rfl rfl (gj_step (y_assign rfl) rfl rfl rfl (gj_nil ?_))))
      refine ej_th (cj_ret (ej_blk_ret (ej_then_ret ?_)))
      refine ej_ret1 rfl Tryz.results80 rfl (fun w' hp => ⟨?_, hp.below⟩)
      rw [deedV, if_neg h5, if_pos h9]
    · have h9b := h9
      try simp only [sxb] at h9
      refine cj_seq ?_
      refine cj_regionG (gj_step (y_eql rfl rfl) rfl rfl rfl (gj_step (y_assign rfl) rfl rfl rfl (gj_nil ?_)))
      refine ej_th ?_
      refine cj_cond rfl (fun h13 => ?_) (fun h13 => ?_)
      · have h13b := h13
        try simp only [sxb] at h13
        refine cj_seq ?_
        refine cj_regionG (gj_step (y_build st242 rfl rfl) rfl rfl rfl (gj_step (y_iface rfl (by kernel_rfl)) rfl rfl rfl (gj_step (y_assign rfl) rfl rfl rfl (gj_nil ?_))))
        refine ej_th (cj_ret (ej_blk_ret (ej_then_ret ?_)))
        refine ej_ret1 rfl Tryz.results80 rfl (fun w' hp => ⟨?_, hp.below⟩)
        rw [deedV, if_neg h5, if_neg h9, if_pos h13]
      · have h13b := h13
        try simp only [sxb] at h13
        refine cj_seq ?_
        refine cj_regionG (gj_step (y_eql rfl rfl) rfl rfl rfl (gj_step (y_assign rfl) rfl rfl rfl (gj_nil ?_)))
        refine ej_th ?_
        refine cj_cond rfl (fun h17 => ?_) (fun h17 => ?_)
        · have h17b := h17
          try simp only [sxb] at h17
          refine cj_seq ?_
          refine cj_regionG (gj_step (y_build st243 rfl rfl) rfl rfl rfl (gj_step (y_iface rfl (by kernel_rfl)) rfl rfl rfl (gj_step (y_assign rfl) rfl rfl rfl (gj_nil ?_))))
          refine ej_th (cj_ret (ej_blk_ret (ej_then_ret ?_)))
          refine ej_ret1 rfl Tryz.results80 rfl (fun w' hp => ⟨?_, hp.below⟩)
          rw [deedV, if_neg h5, if_neg h9, if_neg h13, if_pos h17]
        · have h17b := h17
          try simp only [sxb] at h17
          refine cj_skip (ej_blk (ej_th (cj_seq ?_)))
          refine cj_regionG (gj_step (y_assign rfl) rfl rfl rfl (gj_nil ?_))
          refine ej_th (cj_ret ?_)
          refine ej_ret1 rfl Tryz.results80 rfl (fun w' hp => ⟨?_, hp.below⟩)
          rw [deedV, if_neg h5, if_neg h9, if_neg h13, if_neg h17]

theorem deed_nil0 (m : Nat) (w : World) : (do eqGuard .eql 180 (.tmp m) (.const .nilIface) .nilIface .nilIface; binOp .eql 180 .nilIface .nilIface : Sem Value).run Tryz.prog w = .ok (.bool true) w := by kernel_rfl
theorem deed_nil (k : Int) (m : Nat) (w : World) : (do eqGuard .eql 180 (.tmp m) (.const .nilIface) (deedV k) .nilIface; binOp .eql 180 (deedV k) .nilIface : Sem Value).run Tryz.prog w = .ok (.bool (isNilK k)) w := by
  cases h : isNilK k
  · rcases kinds h with rfl | rfl | rfl | rfl <;> kernel_rfl
  · have := not_t h
    simp only [Bool.and_eq_false_iff, decide_eq_false_iff_not] at this
    have e : deedV k = .nilIface := by unfold deedV; rw [if_neg (by omega), if_neg (by omega), if_neg (by omega), if_neg (by omega)]
    rw [e]
    exact deed_nil0 m w
theorem deed_call (k n : Int) (h : isNilK k = false) : ∃ f u, (∀ args w, (callMethod (deedV k) "lombard/loan.valid" args).run Tryz.prog w = .ok (.enter f (#[u] ++ args)) w) ∧ ∀ w, Calls Tryz.prog f (#[u] ++ [.int .i64 n].toArray) w (fun e w' => e = .returned (.bool (okKind k n)) ∧ Grow w w') := by
  rcases kinds h with rfl | rfl | rfl | rfl
  · exact ⟨223, .agg #[], fun _ _ => by kernel_rfl, fun w => k_valid1 n w⟩
  · exact ⟨224, .agg #[], fun _ _ => by kernel_rfl, fun w => k_valid2 n w⟩
  · exact ⟨225, .agg #[], fun _ _ => by kernel_rfl, fun w => k_valid3 n w⟩
  · exact ⟨226, .agg #[], fun _ _ => by kernel_rfl, fun w => k_valid4 n w⟩

theorem k_acts (d : Deal) (Ac : Option Addr) (cc : Nat) (l : List Act1) (Al : Option Addr) (cl : Nat) (w : World) (hl0 : Rd w 3 encAct Al l) : Calls Tryz.prog 45 #[.agg #[.int .i64 d.lr, .int .i64 d.lc, .int .i64 d.tr, .int .i64 d.tf, .int .i64 d.te, .int .i64 d.tt, .int .i64 d.tg, .slice Ac d.closed.length cc, .int .i64 d.start, .int .i64 d.sum], .slice Al l.length cl] w (fun e w' => e = .returned (.bool (actsOk d l)) ∧ Grow w w') := by
  have hlen := hl0.len
  refine enter_pure (args := [.agg #[.int .i64 d.lr, .int .i64 d.lc, .int .i64 d.tr, .int .i64 d.tf, .int .i64 d.te, .int .i64 d.tt, .int .i64 d.tg, .slice Ac d.closed.length cc, .int .i64 d.start, .int .i64 d.sum], .slice Al l.length cl]) [sl (fun b => b < w.heap.size) 3 encAct Al l] Tryz.func45 rfl (by rw [Tryz.ntmps45]; simp) (fun g hg => by simp at hg; subst hg; exact ⟨hl0, fun _ h => h⟩) ?_
  refine cj_seq (cj_region ?_)
  refine oj_box rfl rfl rfl (fun b2 => ?_)
  refine oj_step (y_assign rfl) rfl rfl rfl ?_
  refine oj_nil ?_
  refine ej_th (cj_seq ?_)
  refine cj_regionG (gj_step (y_fa fa28_3 rfl) rfl rfl rfl (gj_step (y_load1 Tryz.isAgg3 rfl rfl) rfl rfl rfl (gj_step (y_assign rfl) rfl rfl rfl (gj_nil ?_))))
  refine ej_th (cj_seq (cj_seq ?_))
  refine cj_regionG (gj_step (y_move rfl) rfl rfl rfl (gj_step (y_lenA Tryz.underlying29 rfl) rfl rfl rfl (gj_step (y_move rfl) rfl rfl rfl (gj_nil ?_))))
  refine ej_th (cj_block ?_)
  refine cj_lpc (X := Nat × Int) (fun ⟨k, last⟩ => k ≤ l.length ∧ actsF last (pkOf l k) (l.drop k) = actsF d.start 0 l) (fun ⟨k, last⟩ => [(1, .slice Al l.length cl), (5, .int .i64 last), (11, .slice Al l.length cl), (12, .int .i64 l.length), (13, .int .i64 k)]) (fun ⟨k, last⟩ => l.length - k) (0, d.start) (⟨Nat.zero_le _, rfl⟩) ⟨rfl, rfl, rfl, rfl, rfl, trivial⟩ ?_
  rintro ⟨k, last⟩ ⟨hk, hl⟩
  refine cj_seq ?_
  refine cj_regionG (gj_step (y_lss rfl rfl) rfl rfl rfl (gj_nil ?_))
  refine ej_th (cj_seq ?_)
  refine cj_cond rfl (fun h14 => ?_) (fun h14 => ?_)
  · have h14b := h14
    try simp only [sxb] at h14
    obtain ⟨a, hx⟩ : ∃ a, l[k]? = some a := ⟨_, List.getElem?_eq_getElem (by omega)⟩
    rw [actsF_drop l k a last hx] at hl
    refine cj_skip (ej_th (cj_seq (cj_block (cj_seq (cj_region ?_)))))
    refine oj_step (y_move rfl) rfl rfl rfl ?_
    refine oj_step (y_ixR (reads_sl) Tryz.underlying29 Tryz.sizeOf88 rfl rfl (⟨by omega, by omega⟩)) rfl rfl rfl ?_
    refine oj_step (y_ldW (reads_sl) Tryz.isAgg88 Tryz.sizeOf88 rfl (hx) (fun _ => rfl)) rfl rfl rfl ?_
    refine oj_alloc Tryz.zeroValue88 rfl rfl (fun b7 => ?_)
    refine oj_step (y_assign rfl) rfl rfl rfl ?_
    refine oj_store rfl rfl rfl rfl Tryz.sizeOf88 rfl ?_
    refine oj_nil ?_
    refine ej_th (cj_seq ?_)
    refine cj_regionG ?_
    refine gj_step (y_loadN Tryz.isAgg88 Tryz.sizeOf88 rfl) rfl rfl rfl (?_)
    refine gj_step (y_call Tryz.call80 rfl (fun w hp => k_deedOf a w)) rfl rfl rfl ?_
    refine gj_step (y_assign rfl) rfl rfl rfl (?_)
    refine gj_nil ?_
    refine ej_th (cj_seq (cj_seq ?_))
    refine cj_regionG ?_
    refine gj_step (y_move rfl) rfl rfl rfl (gj_step (y_binO rfl rfl (fun w => deed_nil a.kind _ w)) rfl rfl rfl (gj_step (y_move rfl) rfl rfl rfl (?_)))
    refine gj_g 5 22 27 rfl rfl rfl rfl (fun hg22 => gj_yes rfl rfl rfl (y_move rfl) rfl rfl (gj_yes rfl rfl rfl (y_fa fa88_2 rfl) rfl rfl (gj_yes rfl rfl rfl (y_load1 Tryz.isAgg3 rfl rfl) rfl rfl (gj_yes rfl rfl rfl (y_invokeG rfl rfl (by obtain ⟨f, u, h1, h2⟩ := deed_call a.kind a.n hg22; exact ⟨f, u, h1, fun w _ => h2 w⟩)) rfl rfl (gj_yes rfl rfl rfl (y_not rfl) rfl rfl (gj_nil rfl)))))) ?_
    refine gj_step (y_or rfl rfl rfl) rfl rfl rfl (gj_step (y_move rfl) rfl rfl rfl (?_))
    refine gj_g 5 29 34 rfl rfl rfl rfl (fun hg29 => gj_yes rfl rfl rfl (y_fa0 fa88_0 rfl) rfl rfl (gj_yes rfl rfl rfl (y_load1 Tryz.isAgg3 rfl rfl) rfl rfl (gj_yes rfl rfl rfl (y_move rfl) rfl rfl (gj_yes rfl rfl rfl (y_call Tryz.call56 rfl (fun w hp => k_within _ _ _ w)) rfl rfl (gj_yes rfl rfl rfl (y_not rfl) rfl rfl (gj_nil rfl)))))) ?_
    refine gj_step (y_or rfl rfl rfl) rfl rfl rfl (gj_step (y_move rfl) rfl rfl rfl (?_))
    refine gj_g 11 36 47 rfl rfl rfl rfl (fun hg36 => gj_yes rfl rfl rfl (y_move rfl) rfl rfl (gj_yes rfl rfl rfl (y_gtr rfl rfl) rfl rfl (gj_yes rfl rfl rfl (y_move rfl) rfl rfl (gj_g 7 39 46 rfl rfl rfl rfl (fun hg39 => gj_yes rfl rfl rfl (y_move rfl) rfl rfl (gj_yes rfl rfl rfl (y_move rfl) rfl rfl (gj_yes rfl rfl rfl (y_sub rfl rfl (by have := of_decide_eq_true hg39; omega)) rfl rfl (gj_yes rfl rfl rfl (y_ixR (reads_sl) Tryz.underlying29 Tryz.sizeOf88 rfl rfl (⟨by have := of_decide_eq_true hg39; omega, by have := of_decide_eq_true hg39; omega⟩)) rfl rfl (gj_yes rfl rfl rfl (y_faE fa88_1 rfl) rfl rfl (gj_yes rfl rfl rfl (y_ld1 (reads_sl) Tryz.isAgg3 rfl (geq default (by have := of_decide_eq_true hg39; omega)) rfl) rfl rfl (gj_yes rfl rfl rfl (y_eql rfl rfl) rfl rfl (gj_nil rfl)))))))) (gj_yes rfl rfl rfl (y_and rfl rfl rfl) rfl rfl (gj_nil rfl)))))) ?_
    refine gj_step (y_or rfl rfl rfl) rfl rfl rfl (?_)
    refine gj_nil ?_
    refine ej_th ?_
    refine cj_cond rfl (fun h48 => ?_) (fun h48 => ?_)
    · have h48b := h48
      try simp only [sxb] at h48
      have hstep : okAct last (pkOf l k) a = false := not_t ((act_V l k last a).symm.trans h48b)
      refine cj_seq ?_
      refine cj_regionG (gj_step (y_assign rfl) rfl rfl rfl (gj_nil ?_))
      refine ej_th (cj_ret (ej_then_ret (ej_blk_ret (ej_then_ret (ej_then_ret (ej_blk_ret (ej_then_ret ?_)))))))
      refine ej_ret1 rfl Tryz.results45 rfl (fun w' hp => ⟨?_, hp.below⟩)
      rw [actsOk, ← hl, hstep]; rfl
    · have h48b := h48
      try simp only [sxb] at h48
      have hstep : okAct last (pkOf l k) a = true := not_f ((act_V l k last a).symm.trans h48b)
      refine cj_skip (ej_th ?_)
      refine cj_regionG (gj_step (y_fa0 fa88_0 rfl) rfl rfl rfl (gj_step (y_load1 Tryz.isAgg3 rfl rfl) rfl rfl rfl (gj_step (y_assign rfl) rfl rfl rfl (gj_nil ?_))))
      refine ej_blk (ej_th ?_)
      refine cj_regionG (gj_step (y_add rfl rfl (by omega)) rfl rfl rfl (gj_step (y_move rfl) rfl rfl rfl (gj_nil ?_)))
      exact ej_nx (k + 1, a.day) (by simp only; omega) ⟨by omega, by rw [← hl, hstep, Bool.true_and]⟩ ⟨rfl, rfl, rfl, rfl, rfl, trivial⟩
  · have h14b := h14
    try simp only [sxb] at h14
    refine cj_exit (ej_then_exit (ej_then_exit (ej_blk_hit (ej_th (cj_seq ?_)))))
    refine cj_regionG (gj_step (y_move rfl) rfl rfl rfl (gj_step (y_lenA Tryz.underlying29 rfl) rfl rfl rfl (gj_step (y_leq rfl rfl) rfl rfl rfl (gj_step (y_assign rfl) rfl rfl rfl (gj_nil ?_)))))
    refine ej_th (cj_ret ?_)
    refine ej_ret1 rfl Tryz.results45 rfl (fun w' hp => ⟨?_, hp.below⟩)
    rw [List.drop_of_length_le (by omega)] at hl
    rw [actsOk, ← hl]; rfl

end Go.Proofs.YtppfniekcgnmjaaGreatDoor.Ln
namespace Go.Proofs.YtppfniekcgnmjaaGreatDoor.Ln
open Go.Sx Go.RowKit
set_option maxRecDepth 20000
theorem way_call (d : Deal) (Ac : Option Addr) (cc : Nat) (y : Ln) (a : Act1) (b : Nat) (hd : DealOk d) (hy : LOk y) (hk : okKind a.kind a.n = true) (hf : y.fees ≤ 999990000) :
    ∃ f, wayV a.kind = .func (.func f) #[] #[] ∧ (∀ args w, (callFunc f args).run Tryz.prog w = .ok (.enter f args) w) ∧ ∀ w : World, w.heap[b]? = some (cellsB 84 (encLn d Ac cc y)) →
      Calls Tryz.prog f (#[] ++ [.pointer (some ⟨b, 0, none⟩), .int .i64 a.n].toArray ++ #[]) w (fun e w' => e = .returned (.int .i64 (actE d y a)) ∧ Mut (ownB b (cellsB 84 (encLn d Ac cc y))) w w' ∧ w'.heap[b]? = some (cellsB 84 (encLn d Ac cc (actL d y a)))) := by
  have hkk := okKind_kinds hk
  obtain ⟨ad, ak, an⟩ := a
  simp only at hkk hk ⊢
  rcases hkk with rfl | rfl | rfl | rfl
  · refine ⟨229, rfl, Tryz.call229, fun w hw => ?_⟩
    have h1 : 1 ≤ an ∧ an ≤ 1073741824 := by
      simp only [okKind, btw, Bool.and_eq_true, decide_eq_true_eq, if_true] at hk; exact hk
    exact k_pay d Ac cc y b an w hw hy h1
  · exact ⟨230, rfl, Tryz.call230, fun w hw => k_renew d Ac cc y b an w hw hd hy hf⟩
  · refine ⟨231, rfl, Tryz.call231, fun w hw => ?_⟩
    have h1 : 1 ≤ an ∧ an ≤ 366 := by
      have h2 : btw 1 an 366 = true := hk
      simp only [btw, Bool.and_eq_true, decide_eq_true_eq] at h2; exact h2
    exact k_hold d Ac cc y b an w hw hy h1
  · exact ⟨232, rfl, Tryz.call232, fun w hw => k_redeem d Ac cc y b an w hw⟩

theorem k_run (d : Deal) (Ac : Option Addr) (cc : Nat) (l : List Act1) (Al : Option Addr) (cl : Nat) (w : World) (hc : Rd w 1 enInt Ac d.closed) (hl0 : Rd w 3 encAct Al l) (hG : Gl w 0 WAYS) (hd : DealOk d) (ha : actsOk d l = true) : Calls Tryz.prog 46 #[.agg #[.int .i64 d.lr, .int .i64 d.lc, .int .i64 d.tr, .int .i64 d.tf, .int .i64 d.te, .int .i64 d.tt, .int .i64 d.tg, .slice Ac d.closed.length cc, .int .i64 d.start, .int .i64 d.sum], .slice Al l.length cl] w (fun e w' => ∃ A c, e = .returned (.tuple #[.agg (encLn d Ac cc (runL d l).x).toArray, .slice A (runL d l).out.length c, .int .i64 (runL d l).at_, .int .i64 (runL d l).e]) ∧ Grow w w' ∧ Res w w' 5 encAcc A (runL d l).out) := by
  have hlen := hl0.len
  obtain ⟨ham, hal⟩ := actsOk_mem ha
  refine enter_pure (args := [.agg #[.int .i64 d.lr, .int .i64 d.lc, .int .i64 d.tr, .int .i64 d.tf, .int .i64 d.te, .int .i64 d.tt, .int .i64 d.tg, .slice Ac d.closed.length cc, .int .i64 d.start, .int .i64 d.sum], .slice Al l.length cl]) [sl (fun b => b < w.heap.size) 1 enInt Ac d.closed, sl (fun b => b < w.heap.size) 3 encAct Al l, gl 0 WAYS] Tryz.func46 rfl (by rw [Tryz.ntmps46]; simp) (fun g hg => by simp at hg; rcases hg with rfl | rfl | rfl; exact ⟨hc, fun _ h => h⟩; exact ⟨hl0, fun _ h => h⟩; exact ⟨hG.1, fun b hb => by have : b = 0 := hb; rw [this]; exact hG.2⟩) ?_
  refine cj_seq (cj_region ?_)
  refine oj_box rfl rfl rfl (fun b2 => ?_)
  refine oj_alloc Tryz.zeroValue84 rfl rfl (fun b4 => ?_)
  refine oj_step (y_assign rfl) rfl rfl rfl ?_
  refine oj_step (y_assign rfl) rfl rfl rfl ?_
  refine oj_step (y_assign rfl) rfl rfl rfl ?_
  refine oj_nil ?_
  refine ej_th ?_
  refine cj_scope rfl ?_
  refine cj_seq (cj_region ?_)
  refine oj_step (y_loadN Tryz.isAgg28 Tryz.sizeOf28 rfl) rfl rfl rfl ?_
  refine oj_step (y_call Tryz.call81 rfl (fun w hp => k_open d Ac cc w)) rfl rfl rfl ?_
  refine oj_store rfl rfl rfl rfl Tryz.sizeOf84 rfl ?_
  refine oj_nil ?_
  refine ej_th (cj_seq (cj_label (ej_th (cj_seq (cj_seq ?_)))))
  refine cj_ownNil 42 5 encAcc ?_
  refine cj_regionG (gj_step (y_move rfl) rfl rfl rfl (gj_step (y_lenA Tryz.underlying29 rfl) rfl rfl rfl (gj_step (y_move rfl) rfl rfl rfl (gj_nil ?_))))
  refine ej_th (cj_block ?_)
  refine cj_lp (X := Nat × Ln × Option Addr × Nat × List Acc × Int × Int) (fun ⟨k, x, A, c, out, at0, e0⟩ => k ≤ l.length ∧ LOk x ∧ x.fees ≤ 10000 * k ∧ out.length = k ∧ runF d k x out at0 e0 (l.drop k) = runL d l) (fun ⟨k, x, A, c, out, at0, e0⟩ => [(1, .slice Al l.length cl), (4, .pointer (some ⟨b4, 0, none⟩)), (5, .slice A out.length c), (6, .int .i64 at0), (7, .int .i64 e0), (12, .slice Al l.length cl), (13, .int .i64 l.length), (14, .int .i64 k)]) (fun ⟨k, x, A, c, out, at0, e0⟩ => [ow 42 5 encAcc A c out, ownB b4 (cellsB 84 (encLn d Ac cc x))]) (fun ⟨k, x, A, c, out, at0, e0⟩ => [sl (fun b => b < w.heap.size) 1 enInt Ac d.closed, sl (fun b => b < w.heap.size) 3 encAct Al l, gl 0 WAYS]) (fun ⟨k, x, A, c, out, at0, e0⟩ => l.length - k) (0, openL d, none, 0, [], 0, 0) (⟨Nat.zero_le _, openL_ok hd, by simp [openL], rfl, rfl⟩) ⟨rfl, rfl, rfl, rfl, rfl, rfl, rfl, rfl, trivial⟩ ?_
  rintro ⟨k, x, A, c, out, at0, e0⟩ ⟨hk, hx, hfe, hol, hl⟩
  refine cj_seq ?_
  refine cj_regionG (gj_step (y_lss rfl rfl) rfl rfl rfl (gj_nil ?_))
  refine ej_th (cj_seq ?_)
  refine cj_cond rfl (fun h15 => ?_) (fun h15 => ?_)
  · have h15b := h15
    try simp only [sxb] at h15
    obtain ⟨a, hxa⟩ : ∃ a, l[k]? = some a := ⟨_, List.getElem?_eq_getElem (by omega)⟩
    have hka := ham a (List.mem_of_getElem? hxa)
    have hkd := okKind_kinds hka.1
    rw [runF_drop d l k a _ _ _ _ _ hxa] at hl
    have hty := toL_ok hd hx hka.2
    have htf := toL_fees d x a.day
    refine cj_skip (ej_th (cj_seq (cj_block (cj_seq (cj_region ?_)))))
    refine oj_step (y_move rfl) rfl rfl rfl ?_
    refine oj_step (y_ixR (reads_sl) Tryz.underlying29 Tryz.sizeOf88 rfl rfl (⟨by omega, by omega⟩)) rfl rfl rfl ?_
    refine oj_step (y_ldW (reads_sl) Tryz.isAgg88 Tryz.sizeOf88 rfl (hxa) (fun _ => rfl)) rfl rfl rfl ?_
    refine oj_alloc Tryz.zeroValue88 rfl rfl (fun b9 => ?_)
    refine oj_step (y_assign rfl) rfl rfl rfl ?_
    refine oj_store rfl rfl rfl rfl Tryz.sizeOf88 rfl ?_
    refine oj_nil ?_
    refine ej_th (cj_seq (cj_region ?_))
    refine oj_step (y_fa0 fa88_0 rfl) rfl rfl rfl ?_
    refine oj_step (y_load1 Tryz.isAgg3 rfl rfl) rfl rfl rfl ?_
    refine oj_callM (X := Unit) (b := b4) (fun _ => .tuple #[]) (fun _ => cellsB 84 (encLn d Ac cc (toL d x a.day))) Tryz.call57 rfl (fun w hp => (k_to d Ac cc x b4 a.day w hp.own1 hp.rdX hd hx hka.2).mono (fun e w2 ⟨h1, h2, h3⟩ => ⟨(), h1, h2, h3⟩)) rfl (fun _ => ?_)
    obtain ⟨y, hy⟩ : ∃ y, y = toL d x a.day := ⟨_, rfl⟩
    rw [← hy] at hl hty htf ⊢
    refine oj_nil ?_
    refine ej_th (cj_seq ?_)
    refine cj_regionG (gj_step (y_move rfl) rfl rfl rfl (gj_step (y_assign rfl) rfl rfl rfl (gj_step (y_assign rfl) rfl rfl rfl (gj_nil ?_))))
    refine ej_th (cj_seq (cj_seq ?_))
    refine cj_regionG ?_
    refine gj_step (y_loadN Tryz.isAgg84 Tryz.sizeOf84 rfl) rfl rfl rfl (?_)
    refine gj_step (y_call Tryz.call82 rfl (fun w hp => k_over d Ac cc y w hd)) rfl rfl rfl ?_
    refine gj_nil ?_
    refine ej_th ?_
    refine cj_cond rfl (fun h24 => ?_) (fun h24 => ?_)
    · have h24b := h24
      try simp only [sxb] at h24
      refine cj_exit (ej_then_exit (ej_blk_pass rfl (ej_then_exit (ej_then_exit (ej_blk_hit (ej_th (cj_seq (cj_region ?_))))))))
      refine oj_step (y_loadN Tryz.isAgg84 Tryz.sizeOf84 rfl) rfl rfl rfl ?_
      refine oj_step (y_move rfl) rfl rfl rfl ?_
      refine oj_step (y_move rfl) rfl rfl rfl ?_
      refine oj_step (y_move rfl) rfl rfl rfl ?_
      refine oj_store rfl rfl rfl rfl Tryz.sizeOf84 rfl ?_
      refine oj_step (y_assign rfl) rfl rfl rfl ?_
      refine oj_step (y_assign rfl) rfl rfl rfl ?_
      refine oj_step (y_assign rfl) rfl rfl rfl ?_
      refine oj_nil ?_
      refine ej_th (cj_ret (ej_noGoto_ret ?_))
      have hr : runL d l = ⟨y, out, k, 25⟩ := by rw [← hl, if_pos h24b]
      rw [hr]
      exact ej_retC4 rfl Tryz.results46 rfl (y_loadN Tryz.isAgg84 Tryz.sizeOf84 rfl) rfl rfl rfl (fun w' hp => ⟨A, c, rfl, hp.below, hp.res (fun _ => rfl) (by unfold maxLen; simp only; omega)⟩)
    · have h24b := h24
      try simp only [sxb] at h24
      refine cj_skip (ej_th (cj_seq (cj_seq ?_)))
      refine cj_plan 9 (by kernel_rfl) (by kernel_rfl) ?_
      refine pl_y 0 rfl (y_fa fa88_1 rfl) rfl rfl rfl rfl (by kernel_rfl) ?_
      refine pl_y 1 rfl (y_load1 Tryz.isAgg3 rfl rfl) rfl rfl rfl rfl (by kernel_rfl) ?_
      refine pl_y 2 rfl (y_sub rfl rfl (by omega)) rfl rfl rfl rfl (by kernel_rfl) ?_
      refine pl_y 3 rfl (y_ixArr Tryz.underlying184 Tryz.sizeOf183 rfl rfl (by omega)) rfl rfl rfl rfl (by kernel_rfl) ?_
      refine pl_y 4 rfl (y_loadG Tryz.isAgg183 rfl (way_at hkd)) rfl rfl rfl rfl (by kernel_rfl) ?_
      refine pl_y 5 rfl (y_fa fa88_2 rfl) rfl rfl rfl rfl (by kernel_rfl) ?_
      refine pl_y 6 rfl (y_load1 Tryz.isAgg3 rfl rfl) rfl rfl rfl rfl (by kernel_rfl) ?_
      refine pl_w1 7 (by kernel_rfl) rfl rfl (pl_fire rfl rfl rfl (by kernel_rfl) ?_)
      refine oj_callMV (X := Unit) (b := b4) (fun _ => .int .i64 (actE d y a)) (fun _ => cellsB 84 (encLn d Ac cc (actL d y a))) rfl rfl (by obtain ⟨f, h1, h2, h3⟩ := way_call d Ac cc y a b4 hd hty hka.1 (by omega); exact ⟨f, #[], #[], h1, h2, fun w hp => (h3 w hp.own1).mono (fun e w2 ⟨p, q, r⟩ => ⟨(), p, q, r⟩)⟩) rfl (fun _ => ?_)
      obtain ⟨z, hz⟩ : ∃ z, z = actL d y a := ⟨_, rfl⟩
      obtain ⟨en, hen⟩ : ∃ en, en = actE d y a := ⟨_, rfl⟩
      rw [← hz, ← hen] at hl ⊢
      refine oj_nil ?_
      refine ej_pl (lt_w (by kernel_rfl) (lt_y (y_fa fa88_2 rfl) rfl (lt_w (by kernel_rfl) (lt_y (y_ixArr Tryz.underlying184 Tryz.sizeOf183 rfl rfl (by omega)) rfl (lt_y (y_sub rfl rfl (by omega)) rfl (lt_y (y_load1 Tryz.isAgg3 rfl rfl) rfl (lt_y (y_fa fa88_1 rfl) rfl (lt_nil)))))))) ?_
      refine pl_y 8 rfl (y_assign rfl) rfl rfl rfl rfl (by kernel_rfl) ?_
      refine pl_end (by kernel_rfl) ?_
      refine ej_th (cj_seq ?_)
      refine cj_regionG (gj_step (y_move rfl) rfl rfl rfl (gj_step (y_neq rfl rfl) rfl rfl rfl (gj_nil ?_)))
      refine ej_th ?_
      refine cj_cond rfl (fun h34 => ?_) (fun h34 => ?_)
      · have h34b := h34
        try simp only [sxb] at h34
        refine cj_exit (ej_then_exit (ej_blk_pass rfl (ej_then_exit (ej_then_exit (ej_blk_hit (ej_th (cj_seq (cj_region ?_))))))))
        refine oj_step (y_loadN Tryz.isAgg84 Tryz.sizeOf84 rfl) rfl rfl rfl ?_
        refine oj_step (y_move rfl) rfl rfl rfl ?_
        refine oj_step (y_move rfl) rfl rfl rfl ?_
        refine oj_step (y_move rfl) rfl rfl rfl ?_
        refine oj_store rfl rfl rfl rfl Tryz.sizeOf84 rfl ?_
        refine oj_step (y_assign rfl) rfl rfl rfl ?_
        refine oj_step (y_assign rfl) rfl rfl rfl ?_
        refine oj_step (y_assign rfl) rfl rfl rfl ?_
        refine oj_nil ?_
        refine ej_th (cj_ret (ej_noGoto_ret ?_))
        have hr : runL d l = ⟨z, out, k, en⟩ := by rw [← hl, if_neg (by rw [h24b]; simp), if_neg h34]
        rw [hr]
        exact ej_retC4 rfl Tryz.results46 rfl (y_loadN Tryz.isAgg84 Tryz.sizeOf84 rfl) rfl rfl rfl (fun w' hp => ⟨A, c, rfl, hp.below, hp.res (fun _ => rfl) (by unfold maxLen; simp only; omega)⟩)
      · have h34b := h34
        try simp only [sxb] at h34
        refine cj_skip (ej_th (cj_region ?_))
        refine oj_step (y_move rfl) rfl rfl rfl ?_
        refine oj_step (y_fa0 fa84_0 rfl) rfl rfl rfl ?_
        refine oj_step (y_loadN Tryz.isAgg42 Tryz.sizeOf42 rfl) rfl rfl rfl ?_
        refine oj_buildSlice [.int .i64 0, .int .i64 0, .int .i64 0, .int .i64 0, .bool false] Tryz.underlying36 Tryz.sizeOf42 Tryz.zeroValue42 rfl rfl (by kernel_rfl) rfl rfl (fun b38 => ?_)
        refine oj_append  el36 (fun _ => rfl) encAcc_one rfl rfl rfl (reads_lit [z.acc] (fun _ => rfl) rfl) (by simp [maxLen]; omega) (by simp; omega) rfl (fun A39 c39 => ?_)
        refine oj_step (y_move rfl) rfl rfl rfl ?_
        refine oj_step (y_add rfl rfl (by omega)) rfl rfl rfl ?_
        refine oj_step (y_assign rfl) rfl rfl rfl ?_
        refine oj_step (y_assign rfl) rfl rfl rfl ?_
        refine oj_nil ?_
        refine ej_blk (ej_th ?_)
        refine cj_regionG (gj_step (y_add rfl rfl (by omega)) rfl rfl rfl (gj_step (y_move rfl) rfl rfl rfl (gj_nil ?_)))
        rw [if_neg (by rw [h24b]; simp), if_pos h34] at hl
        have hzok : LOk z := by rw [hz]; exact actL_ok hd hty hka.1 (by omega)
        have hzf : z.fees ≤ y.fees + 10000 := by rw [hz]; exact actL_fees hd
        rw [h34]
        exact ej_nx (k + 1, z, A39, c39, out ++ [z.acc], ((k : Int) + 1), 0) (by simp only; omega) ⟨by omega, hzok, by omega, by simp [hol], hl⟩ ⟨rfl, rfl, rfl, rfl, rfl, rfl, rfl, rfl, trivial⟩
  · have h15b := h15
    try simp only [sxb] at h15
    rw [List.drop_of_length_le (by omega), runF_nil] at hl
    refine cj_exit (ej_then_exit (ej_then_exit (ej_blk_hit (ej_th (cj_seq (cj_region ?_))))))
    refine oj_step (y_loadN Tryz.isAgg84 Tryz.sizeOf84 rfl) rfl rfl rfl ?_
    refine oj_step (y_move rfl) rfl rfl rfl ?_
    refine oj_step (y_move rfl) rfl rfl rfl ?_
    refine oj_step (y_move rfl) rfl rfl rfl ?_
    refine oj_store rfl rfl rfl rfl Tryz.sizeOf84 rfl ?_
    refine oj_step (y_assign rfl) rfl rfl rfl ?_
    refine oj_step (y_assign rfl) rfl rfl rfl ?_
    refine oj_step (y_assign rfl) rfl rfl rfl ?_
    refine oj_nil ?_
    refine ej_th (cj_ret (ej_noGoto_ret ?_))
    have hr : runL d l = ⟨x, out, at0, e0⟩ := hl.symm
    rw [hr]
    exact ej_retC4 rfl Tryz.results46 rfl (y_loadN Tryz.isAgg84 Tryz.sizeOf84 rfl) rfl rfl rfl (fun w' hp => ⟨A, c, rfl, hp.below, hp.res (fun _ => rfl) (by unfold maxLen; simp only; omega)⟩)

end Go.Proofs.YtppfniekcgnmjaaGreatDoor.Ln
namespace Go.Proofs.YtppfniekcgnmjaaGreatDoor.Ln
open Go.Sx Go.RowKit

abbrev zeroLn : List Value := [.int .i64 0, .int .i64 0, .int .i64 0, .int .i64 0, .bool false, .int .i64 0, .int .i64 0, .int .i64 0, .int .i64 0, .int .i64 0, .int .i64 0, .int .i64 0, .int .i64 0, .int .i64 0, .int .i64 0, .int .i64 0, .slice none 0 0, .int .i64 0, .int .i64 0, .int .i64 0, .int .i64 0]
def askOk (d : Deal) (l : List Act1) : Bool := !(badDeal d) && actsOk d l
def askE (d : Deal) (l : List Act1) : Int := if badDeal d then 23 else if actsOk d l then 0 else 24
def onOk (d : Deal) (l : List Act1) (n : Int) : Bool := askOk d l && (runL d l).e == 0 && btw (runL d l).x.day n 36500
def onE (d : Deal) (l : List Act1) (n : Int) : Int := if askOk d l then (if (runL d l).e = 0 then (if btw (runL d l).x.day n 36500 then 0 else 7) else (runL d l).e) else askE d l
theorem askOk_parts {d : Deal} {l : List Act1} (h : askOk d l = true) : badDeal d = false ∧ actsOk d l = true := by
  rw [askOk, Bool.and_eq_true] at h
  exact ⟨not_t h.1, h.2⟩
theorem askOk_not {d : Deal} {l : List Act1} (h : askOk d l = false) : badDeal d = true ∨ (badDeal d = false ∧ actsOk d l = false) := by
  cases hb : badDeal d
  · rw [askOk, hb] at h; exact .inr ⟨rfl, by simpa using h⟩
  · exact .inl rfl
theorem askE_ne {d : Deal} {l : List Act1} (h : askOk d l = false) : askE d l ≠ 0 := by
  rcases askOk_not h with h | ⟨h1, h2⟩
  · simp [askE, h]
  · simp [askE, h1, h2]
theorem onOk_parts {d : Deal} {l : List Act1} {n : Int} (h : onOk d l n = true) : askOk d l = true ∧ (runL d l).e = 0 ∧ btw (runL d l).x.day n 36500 = true := by
  simp only [onOk, Bool.and_eq_true, beq_iff_eq] at h
  exact ⟨h.1.1, h.1.2, h.2⟩
theorem onE_yes {d : Deal} {l : List Act1} {n : Int} (h : onOk d l n = true) : onE d l n = 0 := by
  obtain ⟨h1, h2, h3⟩ := onOk_parts h
  rw [onE, if_pos h1, if_pos h2, if_pos h3]
def OweA (d : Deal) (l : List Act1) (n : Int) : Acc := if onOk d l n then (toL d (runL d l).x n).acc else ⟨0, 0, 0, 0, false⟩
end Go.Proofs.YtppfniekcgnmjaaGreatDoor.Ln
namespace Go.Proofs.YtppfniekcgnmjaaGreatDoor.Ln
open Go.Sx Go.RowKit
set_option maxRecDepth 20000
theorem k_asked_ok (d : Deal) (Ac : Option Addr) (cc : Nat) (l : List Act1) (Al : Option Addr) (cl : Nat) (w : World) (hc : Rd w 1 enInt Ac d.closed) (hl0 : Rd w 3 encAct Al l) (hG : Gl w 0 WAYS) (ha : askOk d l = true) : Calls Tryz.prog 17 #[.agg #[.int .i64 d.lr, .int .i64 d.lc, .int .i64 d.tr, .int .i64 d.tf, .int .i64 d.te, .int .i64 d.tt, .int .i64 d.tg, .slice Ac d.closed.length cc, .int .i64 d.start, .int .i64 d.sum], .slice Al l.length cl] w (fun e w' => ∃ A c, e = .returned (.tuple #[.agg (encLn d Ac cc (runL d l).x).toArray, .slice A (runL d l).out.length c, .int .i64 (runL d l).at_, .int .i64 (runL d l).e]) ∧ Grow w w' ∧ Res w w' 5 encAcc A (runL d l).out) := by
  obtain ⟨hb, hac⟩ := askOk_parts ha
  have hd := badDeal_no hb
  refine enter_pure (args := [.agg #[.int .i64 d.lr, .int .i64 d.lc, .int .i64 d.tr, .int .i64 d.tf, .int .i64 d.te, .int .i64 d.tt, .int .i64 d.tg, .slice Ac d.closed.length cc, .int .i64 d.start, .int .i64 d.sum], .slice Al l.length cl]) [sl (fun b => b < w.heap.size) 1 enInt Ac d.closed, sl (fun b => b < w.heap.size) 3 encAct Al l, gl 0 WAYS] Tryz.func17 rfl (by rw [Tryz.ntmps17]; simp) (fun g hg => by simp at hg; rcases hg with rfl | rfl | rfl; exact ⟨hc, fun _ h => h⟩; exact ⟨hl0, fun _ h => h⟩; exact ⟨hG.1, fun b hb => by have : b = 0 := hb; rw [this]; exact hG.2⟩) ?_
  refine cj_seq (cj_region ?_)
  refine oj_box rfl rfl rfl (fun b2 => ?_)
  refine oj_alloc Tryz.zeroValue84 rfl rfl (fun b4 => ?_)
  refine oj_step (y_assign rfl) rfl rfl rfl ?_
  refine oj_step (y_assign rfl) rfl rfl rfl ?_
  refine oj_step (y_assign rfl) rfl rfl rfl ?_
  refine oj_nil ?_
  refine ej_th (cj_seq (cj_seq ?_))
  refine cj_regionG ?_
  refine gj_step (y_loadN Tryz.isAgg28 Tryz.sizeOf28 rfl) rfl rfl rfl (?_)
  refine gj_step (y_call Tryz.call44 rfl (fun w hp => k_Check _ _ _ w hp.rd)) rfl rfl rfl ?_
  refine gj_step (y_assign rfl) rfl rfl rfl (?_)
  refine gj_nil ?_
  refine ej_th (cj_seq ?_)
  refine cj_regionG (gj_step (y_move rfl) rfl rfl rfl (gj_step (y_neq rfl rfl) rfl rfl rfl (gj_nil ?_)))
  refine ej_th ?_
  refine cj_cond rfl (fun h12 => ?_) (fun h12 => ?_)
  · exact absurd h12 (by rw [hb]; decide)
  · have h12b := h12
    try simp only [sxb] at h12
    refine cj_skip (ej_th (cj_seq (cj_seq ?_)))
    refine cj_regionG ?_
    refine gj_step (y_loadN Tryz.isAgg28 Tryz.sizeOf28 rfl) rfl rfl rfl (gj_step (y_move rfl) rfl rfl rfl (?_))
    refine gj_step (y_call Tryz.call45 rfl (fun w hp => k_acts d Ac cc l Al cl w hp.rd)) rfl rfl rfl ?_
    refine gj_step (y_not rfl) rfl rfl rfl (?_)
    refine gj_nil ?_
    refine ej_th ?_
    refine cj_cond rfl (fun h18 => ?_) (fun h18 => ?_)
    · exact absurd h18 (by rw [hac]; decide)
    · have h18b := h18
      try simp only [sxb] at h18
      refine cj_skip (ej_th (cj_seq (cj_region ?_)))
      refine oj_step (y_loadN Tryz.isAgg28 Tryz.sizeOf28 rfl) rfl rfl rfl ?_
      refine oj_step (y_move rfl) rfl rfl rfl ?_
      refine oj_callS (fun A c => .tuple #[.agg (encLn d Ac cc (runL d l).x).toArray, .slice A (runL d l).out.length c, .int .i64 (runL d l).at_, .int .i64 (runL d l).e]) 5 encAcc (runL d l).out Tryz.call46 rfl (fun w hp => k_run d Ac cc l Al cl w hp.rd hp.rd hp.glo hd hac) rfl (fun A22 c22 fp22 hfp22 => ?_)
      refine oj_step (y_extract rfl rfl) rfl rfl rfl ?_
      refine oj_step (y_extract rfl rfl) rfl rfl rfl ?_
      refine oj_step (y_extract rfl rfl) rfl rfl rfl ?_
      refine oj_step (y_extract rfl rfl) rfl rfl rfl ?_
      refine oj_store rfl rfl rfl rfl Tryz.sizeOf84 rfl ?_
      refine oj_step (y_assign rfl) rfl rfl rfl ?_
      refine oj_step (y_assign rfl) rfl rfl rfl ?_
      refine oj_step (y_assign rfl) rfl rfl rfl ?_
      refine oj_nil ?_
      refine ej_th (cj_ret ?_)
      exact ej_retC4 rfl Tryz.results17 rfl (y_loadN Tryz.isAgg84 Tryz.sizeOf84 rfl) rfl rfl rfl (fun w' hp => ⟨A22, c22, rfl, hp.below, hp.resS hfp22⟩)

theorem k_asked_no (d : Deal) (Ac : Option Addr) (cc : Nat) (l : List Act1) (Al : Option Addr) (cl : Nat) (w : World) (hc : Rd w 1 enInt Ac d.closed) (hl0 : Rd w 3 encAct Al l) (hG : Gl w 0 WAYS) (ha : askOk d l = false) : Calls Tryz.prog 17 #[.agg #[.int .i64 d.lr, .int .i64 d.lc, .int .i64 d.tr, .int .i64 d.tf, .int .i64 d.te, .int .i64 d.tt, .int .i64 d.tg, .slice Ac d.closed.length cc, .int .i64 d.start, .int .i64 d.sum], .slice Al l.length cl] w (fun e w' => e = .returned (.tuple #[.agg zeroLn.toArray, .slice none 0 0, .int .i64 0, .int .i64 (askE d l)]) ∧ Grow w w') := by
  have hno := askOk_not ha
  refine enter_pure (args := [.agg #[.int .i64 d.lr, .int .i64 d.lc, .int .i64 d.tr, .int .i64 d.tf, .int .i64 d.te, .int .i64 d.tt, .int .i64 d.tg, .slice Ac d.closed.length cc, .int .i64 d.start, .int .i64 d.sum], .slice Al l.length cl]) [sl (fun b => b < w.heap.size) 1 enInt Ac d.closed, sl (fun b => b < w.heap.size) 3 encAct Al l, gl 0 WAYS] Tryz.func17 rfl (by rw [Tryz.ntmps17]; simp) (fun g hg => by simp at hg; rcases hg with rfl | rfl | rfl; exact ⟨hc, fun _ h => h⟩; exact ⟨hl0, fun _ h => h⟩; exact ⟨hG.1, fun b hb => by have : b = 0 := hb; rw [this]; exact hG.2⟩) ?_
  refine cj_seq (cj_region ?_)
  refine oj_box rfl rfl rfl (fun b2 => ?_)
  refine oj_alloc Tryz.zeroValue84 rfl rfl (fun b4 => ?_)
  refine oj_step (y_assign rfl) rfl rfl rfl ?_
  refine oj_step (y_assign rfl) rfl rfl rfl ?_
  refine oj_step (y_assign rfl) rfl rfl rfl ?_
  refine oj_nil ?_
  refine ej_th (cj_seq (cj_seq ?_))
  refine cj_regionG ?_
  refine gj_step (y_loadN Tryz.isAgg28 Tryz.sizeOf28 rfl) rfl rfl rfl (?_)
  refine gj_step (y_call Tryz.call44 rfl (fun w hp => k_Check _ _ _ w hp.rd)) rfl rfl rfl ?_
  refine gj_step (y_assign rfl) rfl rfl rfl (?_)
  refine gj_nil ?_
  refine ej_th (cj_seq ?_)
  refine cj_regionG (gj_step (y_move rfl) rfl rfl rfl (gj_step (y_neq rfl rfl) rfl rfl rfl (gj_nil ?_)))
  refine ej_th ?_
  refine cj_cond rfl (fun h12 => ?_) (fun h12 => ?_)
  · have h12b := h12
    try simp only [sxb] at h12
    rw [errD_ne] at h12
    refine cj_seq (cj_region ?_)
    refine oj_step (y_build st84 rfl rfl) rfl rfl rfl ?_
    refine oj_step (y_move rfl) rfl rfl rfl ?_
    refine oj_store rfl rfl rfl rfl Tryz.sizeOf84 rfl ?_
    refine oj_step (y_assign rfl) rfl rfl rfl ?_
    refine oj_step (y_assign rfl) rfl rfl rfl ?_
    refine oj_step (y_assign rfl) rfl rfl rfl ?_
    refine oj_nil ?_
    refine ej_th (cj_ret (ej_then_ret ?_))
    have he : askE d l = 23 := by simp [askE, h12]
    rw [he, h12]
    exact ej_retC4 rfl Tryz.results17 rfl (y_loadN Tryz.isAgg84 Tryz.sizeOf84 rfl) rfl rfl rfl (fun w' hp => ⟨rfl, hp.below⟩)
  · have h12b := h12
    try simp only [sxb] at h12
    rw [errD_eq] at h12
    have hac : actsOk d l = false := by
      rcases hno with h | h
      · rw [h12] at h; cases h
      · exact h.2
    refine cj_skip (ej_th (cj_seq (cj_seq ?_)))
    refine cj_regionG ?_
    refine gj_step (y_loadN Tryz.isAgg28 Tryz.sizeOf28 rfl) rfl rfl rfl (gj_step (y_move rfl) rfl rfl rfl (?_))
    refine gj_step (y_call Tryz.call45 rfl (fun w hp => k_acts d Ac cc l Al cl w hp.rd)) rfl rfl rfl ?_
    refine gj_step (y_not rfl) rfl rfl rfl (?_)
    refine gj_nil ?_
    refine ej_th ?_
    refine cj_cond rfl (fun h18 => ?_) (fun h18 => ?_)
    · have h18b := h18
      try simp only [sxb] at h18
      refine cj_seq (cj_region ?_)
      refine oj_step (y_build st84 rfl rfl) rfl rfl rfl ?_
      refine oj_store rfl rfl rfl rfl Tryz.sizeOf84 rfl ?_
      refine oj_step (y_assign rfl) rfl rfl rfl ?_
      refine oj_step (y_assign rfl) rfl rfl rfl ?_
      refine oj_step (y_assign rfl) rfl rfl rfl ?_
      refine oj_nil ?_
      refine ej_th (cj_ret (ej_then_ret ?_))
      have he : askE d l = 24 := by simp [askE, h12, hac]
      rw [he]
      exact ej_retC4 rfl Tryz.results17 rfl (y_loadN Tryz.isAgg84 Tryz.sizeOf84 rfl) rfl rfl rfl (fun w' hp => ⟨rfl, hp.below⟩)
    · exact absurd h18 (by rw [hac]; decide)

end Go.Proofs.YtppfniekcgnmjaaGreatDoor.Ln
namespace Go.Proofs.YtppfniekcgnmjaaGreatDoor.Ln
open Go.Sx Go.RowKit

end Go.Proofs.YtppfniekcgnmjaaGreatDoor.Ln
namespace Go.Proofs.YtppfniekcgnmjaaGreatDoor.Ln
open Go.Sx Go.RowKit
set_option maxRecDepth 20000
end Go.Proofs.YtppfniekcgnmjaaGreatDoor.Ln
namespace Go.Proofs.YtppfniekcgnmjaaGreatDoor.Ln
open Go.Sx Go.RowKit
set_option maxRecDepth 20000
end Go.Proofs.YtppfniekcgnmjaaGreatDoor.Ln
namespace Go.Proofs.YtppfniekcgnmjaaGreatDoor.Ln
open Go.Sx Go.RowKit

theorem toL_parts (d : Deal) (x : Ln) (day : Int) : (toL d x day).pr = (goN d (day - x.day).toNat x).pr ∧ (toL d x day).pd = (goN d (day - x.day).toNat x).pd ∧ (toL d x day).ag = (goN d (day - x.day).toNat x).ag ∧ (toL d x day).op = (goN d (day - x.day).toNat x).op ∧
    (toL d x day).all = (goN d (day - x.day).toNat x).all ∧ (toL d x day).dear = (goN d (day - x.day).toNat x).dear ∧ (toL d x day).days = (goN d (day - x.day).toNat x).days ∧ (toL d x day).fees = (goN d (day - x.day).toNat x).fees ∧ (toL d x day).day = (goN d (day - x.day).toNat x).day ∧ (toL d x day).held = (goN d (day - x.day).toNat x).held := by
  unfold toL
  split <;> exact ⟨rfl, rfl, rfl, rfl, rfl, rfl, rfl, rfl, rfl, rfl⟩
theorem encAct_one (a : Act1) : ∀ v ∈ encAct a, v.oneCell' = true := by simp [encAct, Value.oneCell']
theorem goN_add (d : Deal) : ∀ (a b : Nat) (x : Ln), goN d (a + b) x = goN d b (goN d a x)
  | 0, b, x => by rw [Nat.zero_add]; rfl
  | a + 1, b, x => by rw [show a + 1 + b = (a + b) + 1 by omega, goN, goN, goN_add d a b]
/-! the reference's check of a deal -/
end Go.Proofs.YtppfniekcgnmjaaGreatDoor.Ln
namespace Go.Proofs.YtppfniekcgnmjaaGreatDoor.Ln
open Go.Sx Go.RowKit

theorem stepDay_parts (d : Deal) (x : Ln) : (stepDay d x).pr = x.pr ∧ (stepDay d x).ch = x.ch ∧ (stepDay d x).pd = x.pd ∧ (stepDay d x).op = x.op ∧ (stepDay d x).fees = x.fees ∧ (stepDay d x).held = x.held ∧ (stepDay d x).day = x.day + 1 ∧
    (stepDay d x).all = (if countsB d x (x.day + 1) then x.all + x.pr else x.all) ∧ (stepDay d x).days = (if countsB d x (x.day + 1) then x.days + 1 else x.days) ∧
    (stepDay d x).dear = (if countsB d x (x.day + 1) then (if d.tf < x.days + 1 then x.dear + x.pr else x.dear) else x.dear) := by
  unfold stepDay counted
  cases countsB d x (x.day + 1) <;> exact ⟨rfl, rfl, rfl, rfl, rfl, rfl, rfl, rfl, rfl, rfl⟩
theorem goN_same (d : Deal) : ∀ (k : Nat) (x : Ln), (goN d k x).pr = x.pr ∧ (goN d k x).ch = x.ch ∧ (goN d k x).pd = x.pd ∧ (goN d k x).op = x.op ∧ (goN d k x).fees = x.fees ∧ (goN d k x).held = x.held
  | 0, _ => ⟨rfl, rfl, rfl, rfl, rfl, rfl⟩
  | k + 1, x => by
    obtain ⟨h1, h2, h3, h4, h5, h6, _⟩ := stepDay_parts d x
    obtain ⟨g1, g2, g3, g4, g5, g6⟩ := goN_same d k (stepDay d x)
    exact ⟨g1.trans h1, g2.trans h2, g3.trans h3, g4.trans h4, g5.trans h5, g6.trans h6⟩
theorem charge_congr {d : Deal} {x y : Ln} (h1 : x.all = y.all) (h2 : x.dear = y.dear) (h3 : x.fees = y.fees) : chargeOf d x = chargeOf d y := by
  unfold chargeOf limitOf; rw [h1, h2, h3]
theorem charge_mono {d : Deal} (hd : DealOk d) {x y : Ln} (h1 : x.all ≤ y.all) (h2 : x.dear ≤ y.dear) (h3 : x.fees ≤ y.fees) : chargeOf d x ≤ chargeOf d y := by
  have e1 : x.all * d.lr ≤ y.all * d.lr := Int.mul_le_mul_of_nonneg_right h1 hd.lr.1
  have e2 : x.dear * d.tr ≤ y.dear * d.tr := Int.mul_le_mul_of_nonneg_right h2 hd.tr.1
  unfold chargeOf limitOf
  omega
theorem sums_same {x y : Ln} (h : sumsNe y x = false) : y.all = x.all ∧ y.dear = x.dear ∧ y.days = x.days ∧ y.fees = x.fees := by
  simp only [sumsNe, Bool.not_eq_false', Bool.and_eq_true, beq_iff_eq] at h
  exact ⟨h.1.1.1, h.1.1.2, h.1.2, h.2⟩
/-- The charge is that of the sums. -/
def ChOk (d : Deal) (x : Ln) : Prop := x.ch = chargeOf d x
theorem toL_eq {d : Deal} {x : Ln} (h : ChOk d x) (day : Int) : toL d x day = { goN d (day - x.day).toNat x with ch := chargeOf d (goN d (day - x.day).toNat x) } := by
  unfold toL
  cases hs : sumsNe (goN d (day - x.day).toNat x) x
  · obtain ⟨h1, h2, _, h4⟩ := sums_same hs
    have h5 : chargeOf d (goN d (day - x.day).toNat x) = (goN d (day - x.day).toNat x).ch := by
      rw [charge_congr h1 h2 h4, (goN_same d _ x).2.1]; exact h.symm
    rw [if_neg (by simp), h5]
  · rw [if_pos rfl]
theorem toL_ch {d : Deal} {x : Ln} (h : ChOk d x) (day : Int) : ChOk d (toL d x day) := by
  rw [toL_eq h]; rfl
theorem openL_ch {d : Deal} (hd : DealOk d) : ChOk d (openL d) := by
  have h1 := hd.sum; have h2 := hd.lc
  have h3 : 0 ≤ d.sum * d.lc := Int.mul_nonneg (by omega) h2.1
  unfold ChOk chargeOf limitOf openL
  simp only [Int.zero_mul]
  omega
theorem renew_ch (d : Deal) (x : Ln) : ChOk d (renewL d x) := by
  show chargeOf d (feeL d x) = chargeOf d (renewL d x)
  exact charge_congr rfl rfl rfl
theorem pay_ch {d : Deal} {x : Ln} (h : ChOk d x) (n : Int) : ChOk d (payL x n) := by
  unfold payL
  split
  · exact h
  · exact h.trans (charge_congr rfl rfl rfl)
theorem hold_ch {d : Deal} {x : Ln} (h : ChOk d x) (n : Int) : ChOk d (holdL x n) := by
  unfold holdL
  split
  · exact h
  · exact h.trans (charge_congr rfl rfl rfl)
theorem redeem_ch {d : Deal} {x : Ln} (h : ChOk d x) : ChOk d (redeemL x) := h.trans (charge_congr rfl rfl rfl)
theorem act_ch {d : Deal} {x : Ln} (h : ChOk d x) (a : Act1) : ChOk d (actL d x a) := by
  unfold actL
  split
  · exact pay_ch h _
  · split
    · exact renew_ch d x
    · split
      · exact hold_ch h _
      · exact redeem_ch h
/-- With time sums grow. -/
theorem goN_grow {d : Deal} : ∀ (k : Nat) (x : Ln), 0 ≤ x.pr → x.all ≤ (goN d k x).all ∧ x.dear ≤ (goN d k x).dear
  | 0, _, _ => ⟨Int.le_refl _, Int.le_refl _⟩
  | k + 1, x, h => by
    obtain ⟨h1, _, _, _, _, _, _, h8, _, h10⟩ := stepDay_parts d x
    have ih := goN_grow (d := d) k (stepDay d x) (by rw [h1]; exact h)
    rw [h8, h10] at ih
    rw [goN]
    refine ⟨?_, ?_⟩
    · have := ih.1; split at this <;> omega
    · have := ih.2
      split at this
      · split at this <;> omega
      · exact this
theorem toL_grow {d : Deal} (hd : DealOk d) {x : Ln} (hc : ChOk d x) (hp : 0 ≤ x.pr) (day : Int) : x.ch ≤ (toL d x day).ch := by
  have h1 := goN_grow (d := d) (day - x.day).toNat x hp
  rw [toL_eq hc]
  show x.ch ≤ chargeOf d _
  rw [show x.ch = chargeOf d x from hc]
  exact charge_mono hd h1.1 h1.2 (by rw [(goN_same d _ x).2.2.2.2.1]; exact Int.le_refl _)

/-! ### A loan that owes less -/
structure Less (x y : Ln) : Prop where
  day : x.day = y.day
  days : x.days = y.days
  op : x.op = y.op
  held : x.held = y.held
  fees : x.fees = y.fees
  pr : x.pr ≤ y.pr
  all : x.all ≤ y.all
  dear : x.dear ≤ y.dear
theorem Less.step {d : Deal} {x y : Ln} (h : Less x y) : Less (stepDay d x) (stepDay d y) := by
  obtain ⟨h1, h2, h3, h4, h5, h6, h7, h8⟩ := h
  obtain ⟨a1, _, _, a4, a5, a6, a7, a8, a9, a10⟩ := stepDay_parts d x
  obtain ⟨b1, _, _, b4, b5, b6, b7, b8, b9, b10⟩ := stepDay_parts d y
  have hc : countsB d x (x.day + 1) = countsB d y (y.day + 1) := by unfold countsB; rw [h1, h3, h4]
  rw [hc] at a8 a9 a10
  rw [h2] at a9 a10
  refine ⟨by rw [a7, b7, h1], by rw [a9, b9], by rw [a4, b4, h3], by rw [a6, b6, h4], by rw [a5, b5, h5], by rw [a1, b1]; exact h6, ?_, ?_⟩
  · rw [a8, b8]; split <;> omega
  · rw [a10, b10]; split
    · split <;> omega
    · exact h8
theorem Less.go {d : Deal} : ∀ (k : Nat) {x y : Ln}, Less x y → Less (goN d k x) (goN d k y)
  | 0, _, _, h => h
  | k + 1, _, _, h => Less.go k h.step
theorem Less.charge {d : Deal} (hd : DealOk d) {x y : Ln} (h : Less x y) : chargeOf d x ≤ chargeOf d y := charge_mono hd h.all h.dear (by rw [h.fees]; exact Int.le_refl _)

/-! ### One act -/
theorem run_one (d : Deal) (a : Act1) : runL d [a] = if overB d (toL d (openL d) a.day) then ⟨toL d (openL d) a.day, [], 0, 25⟩
    else if actE d (toL d (openL d) a.day) a = 0 then ⟨actL d (toL d (openL d) a.day) a, [(actL d (toL d (openL d) a.day) a).acc], 1, 0⟩ else ⟨actL d (toL d (openL d) a.day) a, [], 0, actE d (toL d (openL d) a.day) a⟩ := by
  simp [runL, runF]
theorem ask_one {d : Deal} (hb : badDeal d = false) {a : Act1} (hk : okKind a.kind a.n = true) (hday : d.start ≤ a.day ∧ a.day ≤ 36500) : askOk d [a] = true := by
  have e : btw d.start a.day 36500 = true := by simp only [btw, Bool.and_eq_true, decide_eq_true_eq]; exact hday
  simp [askOk, hb, actsOk, actsF, okAct, hk, e]
theorem on_one {d : Deal} (hb : badDeal d = false) {a : Act1} (hk : okKind a.kind a.n = true) (hday : d.start ≤ a.day ∧ a.day ≤ 36500) (n : Int) (hn : a.day ≤ n ∧ n ≤ 36500) (hday2 : (actL d (toL d (openL d) a.day) a).day = a.day) :
    (overB d (toL d (openL d) a.day) = true → onE d [a] n = 25) ∧ (overB d (toL d (openL d) a.day) = false → actE d (toL d (openL d) a.day) a ≠ 0 → onE d [a] n = actE d (toL d (openL d) a.day) a) ∧
    (overB d (toL d (openL d) a.day) = false → actE d (toL d (openL d) a.day) a = 0 → onE d [a] n = 0 ∧ OweA d [a] n = (toL d (actL d (toL d (openL d) a.day) a) n).acc) := by
  have ha := ask_one hb hk hday
  refine ⟨fun h => ?_, fun h h0 => ?_, fun h h0 => ?_⟩
  · have hr := run_one d a
    rw [h, if_pos rfl] at hr
    simp [onE, ha, hr]
  · have hr := run_one d a
    rw [h, if_neg (by simp), if_neg h0] at hr
    simp [onE, ha, hr, h0]
  · have hr := run_one d a
    rw [h, if_neg (by simp), if_pos h0] at hr
    have hon : onOk d [a] n = true := by
      have e : btw (actL d (toL d (openL d) a.day) a).day n 36500 = true := by simp only [btw, Bool.and_eq_true, decide_eq_true_eq]; omega
      simp [onOk, ha, hr, e]
    refine ⟨onE_yes hon, ?_⟩
    rw [OweA, if_pos hon, hr]
theorem open_day {d : Deal} {day : Int} (h : d.start ≤ day) : (toL d (openL d) day).day = day := by
  rw [toL_day]; simp only [openL]; omega
/-- WHO PAYS EARLIER IS NOT CHARGED MORE. -/
theorem early {d : Deal} (hd : DealOk d) (hb : badDeal d = false) {e l day p : Int} (h1 : d.start ≤ e) (h2 : e ≤ l) (h3 : l ≤ day) (h4 : day ≤ 36500) (hp : 1 ≤ p ∧ p ≤ 1073741824) :
    (onE d [⟨e, 1, p⟩] day = 0 ∨ onE d [⟨e, 1, p⟩] day = 25 ∨ onE d [⟨e, 1, p⟩] day = 6) ∧ (onE d [⟨l, 1, p⟩] day = 0 ∨ onE d [⟨l, 1, p⟩] day = 25 ∨ onE d [⟨l, 1, p⟩] day = 6) ∧
    (onE d [⟨e, 1, p⟩] day = 0 → onE d [⟨l, 1, p⟩] day = 0 → (OweA d [⟨e, 1, p⟩] day).ch ≤ (OweA d [⟨l, 1, p⟩] day).ch ∧ (OweA d [⟨e, 1, p⟩] day).pr ≤ (OweA d [⟨l, 1, p⟩] day).pr) := by
  have hk : okKind 1 p = true := by show btw 1 p 1073741824 = true; simp only [btw, Bool.and_eq_true, decide_eq_true_eq]; exact hp
  have hact : ∀ (x : Ln) (t : Int), actL d x ⟨t, 1, p⟩ = payL x p ∧ actE d x ⟨t, 1, p⟩ = payE x p := fun x t => ⟨rfl, rfl⟩
  have hpd : ∀ x : Ln, (payL x p).day = x.day := fun x => by unfold payL; split <;> rfl
  have hone : ∀ t : Int, d.start ≤ t → t ≤ day → _ := fun t ht htd => on_one hb (a := ⟨t, 1, p⟩) hk ⟨ht, by show t ≤ 36500; omega⟩ day ⟨htd, h4⟩ (by rw [(hact _ t).1, hpd]; exact open_day ht)
  have herr : ∀ t : Int, d.start ≤ t → t ≤ day → (onE d [⟨t, 1, p⟩] day = 0 ∨ onE d [⟨t, 1, p⟩] day = 25 ∨ onE d [⟨t, 1, p⟩] day = 6) ∧ (onE d [⟨t, 1, p⟩] day = 0 → payE (toL d (openL d) t) p = 0 ∧ OweA d [⟨t, 1, p⟩] day = (toL d (payL (toL d (openL d) t) p) day).acc) := by
    intro t ht htd
    obtain ⟨o1, o2, o3⟩ := hone t ht htd
    simp only [(hact _ t).1, (hact _ t).2] at o1 o2 o3
    cases ho : overB d (toL d (openL d) t)
    · by_cases h0 : payE (toL d (openL d) t) p = 0
      · exact ⟨.inl (o3 ho h0).1, fun _ => ⟨h0, (o3 ho h0).2⟩⟩
      · have h6 : payE (toL d (openL d) t) p = 6 := by unfold payE at h0 ⊢; split <;> rename_i hh <;> simp [hh] at h0 ⊢
        have := o2 ho h0
        rw [h6] at this
        exact ⟨.inr (.inr this), fun h => by rw [this] at h; cases h⟩
    · have := o1 ho
      exact ⟨.inr (.inl this), fun h => by rw [this] at h; cases h⟩
  refine ⟨(herr e h1 (by omega)).1, (herr l (by omega) h3).1, fun ea el => ?_⟩
  obtain ⟨pa, oa⟩ := (herr e h1 (by omega)).2 ea
  obtain ⟨pb, ob⟩ := (herr l (by omega) h3).2 el
  rw [oa, ob]
  have hoc := openL_ch hd
  have hsum := hd.sum
  have hopr : 0 ≤ (openL d).pr := by simp only [openL]; omega
  have hos : (openL d).day = d.start := rfl
  -- the two loans on the day of the late payment
  have hx : payL (toL d (openL d) e) p = { toL d (openL d) e with pd := (toL d (openL d) e).pd + min p ((toL d (openL d) e).ch - (toL d (openL d) e).pd), pr := (toL d (openL d) e).pr - max 0 (p - ((toL d (openL d) e).ch - (toL d (openL d) e).pd)) } := by
    unfold payE at pa; unfold payL; split
    · rename_i h; rw [if_pos h] at pa; cases pa
    · rfl
  have hy : payL (toL d (openL d) l) p = { toL d (openL d) l with pd := (toL d (openL d) l).pd + min p ((toL d (openL d) l).ch - (toL d (openL d) l).pd), pr := (toL d (openL d) l).pr - max 0 (p - ((toL d (openL d) l).ch - (toL d (openL d) l).pd)) } := by
    unfold payE at pb; unfold payL; split
    · rename_i h; rw [if_pos h] at pb; cases pb
    · rfl
  have ge := goN_same d (e - d.start).toNat (openL d)
  have gl := goN_same d (l - d.start).toNat (openL d)
  have hsplit : goN d (l - d.start).toNat (openL d) = goN d (l - e).toNat (goN d (e - d.start).toNat (openL d)) := by
    rw [← goN_add]; congr 1; omega
  have hgr := goN_grow (d := d) (l - e).toNat (goN d (e - d.start).toNat (openL d)) (by rw [ge.1]; exact hopr)
  rw [← hsplit] at hgr
  have hchl : chargeOf d (goN d (e - d.start).toNat (openL d)) ≤ chargeOf d (goN d (l - d.start).toNat (openL d)) := charge_mono hd hgr.1 hgr.2 (by rw [ge.2.2.2.2.1, gl.2.2.2.2.1]; exact Int.le_refl _)
  have hte := toL_eq hoc e; have htl := toL_eq hoc l
  rw [hos] at hte htl
  obtain ⟨xa, hxa⟩ : ∃ xa, xa = payL (toL d (openL d) e) p := ⟨_, rfl⟩
  obtain ⟨xb, hxb⟩ : ∃ xb, xb = payL (toL d (openL d) l) p := ⟨_, rfl⟩
  have hca : ChOk d xa := by rw [hxa]; exact pay_ch (toL_ch hoc e) p
  have hcb : ChOk d xb := by rw [hxb]; exact pay_ch (toL_ch hoc l) p
  have hda : xa.day = e := by rw [hxa, hpd]; exact open_day h1
  have hdb : xb.day = l := by rw [hxb, hpd]; exact open_day (by omega)
  rw [← hxa] at hx
  rw [← hxb] at hy
  have hless0 : Less xa (goN d (e - d.start).toNat (openL d)) := by
    rw [hx, hte]
    exact ⟨rfl, rfl, rfl, rfl, rfl, by simp only; omega, Int.le_refl _, Int.le_refl _⟩
  have hless1 : Less (goN d (l - e).toNat xa) (goN d (l - d.start).toNat (openL d)) := by rw [hsplit]; exact hless0.go _
  have hpra : (goN d (l - e).toNat xa).pr = xa.pr := (goN_same d _ xa).1
  have hprb : xa.pr ≤ xb.pr := by
    rw [hx, hy, hte, htl]
    simp only
    rw [ge.1, gl.1, ge.2.2.1, gl.2.2.1]
    omega
  have hless2 : Less (goN d (l - e).toNat xa) xb := by
    obtain ⟨q1, q2, q3, q4, q5, q6, q7, q8⟩ := hless1
    refine ⟨?_, ?_, ?_, ?_, ?_, by rw [hpra]; exact hprb, ?_, ?_⟩
    · rw [hy, htl]; exact q1
    · rw [hy, htl]; exact q2
    · rw [hy, htl]; exact q3
    · rw [hy, htl]; exact q4
    · rw [hy, htl]; exact q5
    · rw [hy, htl]; exact q7
    · rw [hy, htl]; exact q8
  have hless3 := hless2.go (d := d) (day - l).toNat
  rw [← goN_add, show (l - e).toNat + (day - l).toNat = (day - e).toNat by omega] at hless3
  have ta := toL_eq hca day; have tb := toL_eq hcb day
  rw [hda] at ta; rw [hdb] at tb
  rw [← hxa, ← hxb, ta, tb]
  refine ⟨hless3.charge hd, ?_⟩
  show (goN d (day - e).toNat xa).pr ≤ (goN d (day - l).toNat xb).pr
  rw [(goN_same d _ xa).1, (goN_same d _ xb).1]
  exact hprb

end Go.Proofs.YtppfniekcgnmjaaGreatDoor.Ln
namespace Go.Proofs.YtppfniekcgnmjaaGreatDoor.Ln
open Go.Sx Go.RowKit

/-- the loan after acts; its accounts; no act is refused -/
def exec (d : Deal) : Ln → List Act1 → Ln
  | x, [] => x
  | x, a :: l => exec d (actL d (toL d x a.day) a) l
def outs (d : Deal) : Ln → List Act1 → List Acc
  | _, [] => []
  | x, a :: l => (actL d (toL d x a.day) a).acc :: outs d (actL d (toL d x a.day) a) l
def fine (d : Deal) : Ln → List Act1 → Prop
  | _, [] => True
  | x, a :: l => overB d (toL d x a.day) = false ∧ actE d (toL d x a.day) a = 0 ∧ fine d (actL d (toL d x a.day) a) l
theorem run_fine (d : Deal) : ∀ (l : List Act1) (i : Int) (x : Ln) (out : List Acc), fine d x l → runF d i x out i 0 l = ⟨exec d x l, out ++ outs d x l, i + l.length, 0⟩
  | [], i, x, out, _ => by simp [runF, exec, outs]
  | a :: l, i, x, out, ⟨h1, h2, h3⟩ => by
    rw [runF, h1, if_neg (by simp), if_pos h2, run_fine d l _ _ _ h3, exec, outs]
    simp only [List.append_assoc, List.singleton_append, List.length_cons, RunR.mk.injEq, true_and, and_true]
    omega
theorem fine_of_run (d : Deal) : ∀ (l : List Act1) (i : Int) (x : Ln) (out : List Acc) (at0 : Int), (runF d i x out at0 0 l).e = 0 → fine d x l
  | [], _, _, _, _, _ => trivial
  | a :: l, i, x, out, at0, h => by
    rw [runF] at h
    cases ho : overB d (toL d x a.day)
    · rw [ho, if_neg (by simp)] at h
      by_cases h0 : actE d (toL d x a.day) a = 0
      · rw [if_pos h0] at h
        exact ⟨ho, h0, fine_of_run d l _ _ _ _ h⟩
      · rw [if_neg h0] at h
        exact absurd h h0
    · rw [ho, if_pos rfl] at h; cases h
theorem exec_app (d : Deal) : ∀ (l m : List Act1) (x : Ln), exec d x (l ++ m) = exec d (exec d x l) m
  | [], _, _ => rfl
  | _ :: l, m, _ => exec_app d l m _
theorem outs_len (d : Deal) : ∀ (l : List Act1) (x : Ln), (outs d x l).length = l.length
  | [], _ => rfl
  | _ :: l, _ => by rw [outs, List.length_cons, List.length_cons, outs_len d l]
theorem fine_app (d : Deal) : ∀ (l m : List Act1) (x : Ln), fine d x (l ++ m) ↔ (fine d x l ∧ fine d (exec d x l) m)
  | [], m, x => by simp [fine, exec]
  | a :: l, m, x => by
    rw [List.cons_append, fine, fine, exec, fine_app d l m]
    exact ⟨fun ⟨h1, h2, h3, h4⟩ => ⟨⟨h1, h2, h3⟩, h4⟩, fun ⟨⟨h1, h2, h3⟩, h4⟩ => ⟨h1, h2, h3, h4⟩⟩

def RunE (d : Deal) (l : List Act1) : Int := if askOk d l then (runL d l).e else askE d l
def RunN (d : Deal) (l : List Act1) : Int := if askOk d l then (runL d l).at_ else 0
def RunO (d : Deal) (l : List Act1) : List Acc := if askOk d l && ((runL d l).e == 0) then (runL d l).out else []
theorem run_ok {d : Deal} {l : List Act1} (h : RunE d l = 0) : askOk d l = true ∧ fine d (openL d) l ∧ RunO d l = outs d (openL d) l ∧ RunN d l = l.length ∧ runL d l = ⟨exec d (openL d) l, outs d (openL d) l, l.length, 0⟩ := by
  cases ha : askOk d l
  · rw [RunE, ha] at h; exact absurd h (by simpa using askE_ne ha)
  · rw [RunE, ha, if_pos rfl] at h
    have hf := fine_of_run d l _ _ _ _ h
    have hr : runL d l = ⟨exec d (openL d) l, outs d (openL d) l, l.length, 0⟩ := by
      have := run_fine d l 0 (openL d) [] hf
      simpa [runL] using this
    refine ⟨rfl, hf, ?_, ?_, hr⟩
    · rw [RunO, ha, hr]; rfl
    · rw [RunN, ha, hr]; rfl
theorem run_of {d : Deal} {l : List Act1} (ha : askOk d l = true) (hf : fine d (openL d) l) : RunE d l = 0 := by
  rw [RunE, ha, if_pos rfl]
  have := run_fine d l 0 (openL d) [] hf
  show (runF d 0 (openL d) [] 0 0 l).e = 0
  rw [this]
theorem ok_parts {d : Deal} {l : List Act1} (h : askOk d l = true) : DealOk d ∧ (∀ a ∈ l, okKind a.kind a.n = true ∧ a.day ≤ 36500) ∧ l.length ≤ 32 :=
  ⟨badDeal_no (askOk_parts h).1, (actsOk_mem (askOk_parts h).2).1, (actsOk_mem (askOk_parts h).2).2⟩

/-- what holds of a loan throughout -/
structure Good (d : Deal) (x : Ln) : Prop where
  ok : LOk x
  ch : ChOk d x
  due : x.pd ≤ x.ch
theorem open_good {d : Deal} (hd : DealOk d) : Good d (openL d) := ⟨openL_ok hd, openL_ch hd, Int.le_refl _⟩
theorem toL_pd (d : Deal) (x : Ln) (day : Int) : (toL d x day).pd = x.pd := by rw [(toL_parts d x day).2.1]; exact (goN_same d _ x).2.2.1
theorem toL_good {d : Deal} (hd : DealOk d) {x : Ln} (h : Good d x) {day : Int} (hday : day ≤ 36500) : Good d (toL d x day) :=
  ⟨toL_ok hd h.ok hday, toL_ch h.ch day, by rw [toL_pd]; exact Int.le_trans h.due (toL_grow hd h.ch h.ok.pr.1 day)⟩
theorem act_good {d : Deal} (hd : DealOk d) {x : Ln} (h : Good d x) {a : Act1} (hk : okKind a.kind a.n = true) (hf : x.fees ≤ 999990000) : Good d (actL d x a) := by
  refine ⟨actL_ok hd h.ok hk hf, act_ch h.ch a, ?_⟩
  have h1 := h.due
  unfold actL
  split
  · unfold payL; split
    · exact h1
    · simp only; omega
  · split
    · exact Int.le_refl _
    · split
      · unfold holdL; split <;> exact h1
      · exact Int.le_refl _
theorem exec_good {d : Deal} (hd : DealOk d) : ∀ (l : List Act1) (x : Ln), Good d x → x.fees + 10000 * l.length ≤ 999990000 → (∀ a ∈ l, okKind a.kind a.n = true ∧ a.day ≤ 36500) → Good d (exec d x l) ∧ (exec d x l).fees ≤ x.fees + 10000 * l.length
  | [], x, h, _, _ => ⟨h, by simp [exec]⟩
  | a :: l, x, h, hf, ha => by
    have h1 := ha a (List.mem_cons_self ..)
    have h3 := toL_fees d x a.day
    simp only [List.length_cons] at hf
    have h5 : (actL d (toL d x a.day) a).fees ≤ (toL d x a.day).fees + 10000 := actL_fees hd
    have h6 := act_good hd (toL_good hd h h1.2) h1.1 (by omega)
    have ih := exec_good hd l _ h6 (by omega) (fun b hb => ha b (List.mem_cons_of_mem _ hb))
    rw [exec]
    refine ⟨ih.1, ?_⟩
    have := ih.2
    simp only [List.length_cons]
    omega
theorem toL_ge (d : Deal) (x : Ln) (t : Int) : x.day ≤ (toL d x t).day ∧ t ≤ (toL d x t).day := by rw [toL_day]; omega
theorem toL_stay (d : Deal) (x : Ln) {t : Int} (h : t ≤ x.day) : toL d x t = x := by
  unfold toL
  rw [show (t - x.day).toNat = 0 by omega]
  simp [goN, sumsNe]
end Go.Proofs.YtppfniekcgnmjaaGreatDoor.Ln
