/- Texts of ours, joined: 14 of them. Conditions: none. -/
import Derived.Test.YtppfniekcgnmjaaGreatXTopPaidOut2
import Derived.Test.YtppfniekcgnmjaaGreatProg
import Derived.Laws.StructEq
namespace Go.Proofs.YtppfniekcgnmjaaGreat.Ti
open Go.Sx Go.RowKit Um
set_option maxRecDepth 20000
abbrev kdS : TypeDesc := .struct #[{ name := "kind", type := 3, offset := 0, embedded := false, tag := "", pkgPath := "lombard/till", byteOffset := 0 }, { name := "sum", type := 3, offset := 1, embedded := false, tag := "", pkgPath := "lombard/till", byteOffset := 8 }]
theorem bits2 (n : Nat) (x y : Int) : Instr.sameBits (n + 1) (.agg #[.int .i64 x, .int .i64 y]) (.agg #[.int .i64 x, .int .i64 y]) = true := by simp [Instr.sameBits]
theorem check2 (c : Bool) (n : Nat) (x y : Int) (w : World) : (Instr.checkKey c (n + 2) 135 (.agg #[.int .i64 x, .int .i64 y])).run Tryz.prog w = .ok () w := by
  simp [Instr.checkKey, go_sem, Tryz.underlying135, Tryz.underlying3, Tryz.sizeOf3]
theorem equal2 (n : Nat) (x y u v : Int) (w : World) : (Op.equalIn (n + 2) 135 (.agg #[.int .i64 x, .int .i64 y]) (.agg #[.int .i64 u, .int .i64 v])).run Tryz.prog w = .ok ((x == u) && (y == v)) w := by
  simp [Op.equalIn, go_sem, Tryz.stoodInHeld135, Tryz.underlying135, Tryz.underlying3, Tryz.sizeOf3]
  try ((repeat' split) <;> simp_all)
theorem kaS : KeyA Tryz.prog 135 kdS ekS2 where
  und := Tryz.underlying135
  now := fun _ _ => rfl
  eq := fun a b w => by
    have h : decide (b = a) = ((a.1 == b.1) && (a.2 == b.2)) := by
      rw [Bool.eq_iff_iff]; simp only [decide_eq_true_eq, Prod.ext_iff, Bool.and_eq_true, beq_iff_eq]; constructor <;> (rintro ⟨h1, h2⟩; exact ⟨h1.symm, h2.symm⟩)
    rw [h]
    exact equal2 9998 _ _ _ _ w
  bits := fun a => bits2 9999 _ _
  check := fun c w a => check2 c 9998 _ _ w

set_option maxHeartbeats 1000000 in
theorem k_few1 (cs hv : List Int) (Ac Ah : Option Addr) (cc ch : Nat) (fpc fph : Nat → Prop) (bc bk bh bf bm : Nat) (k : Nat) (s : Int) (w : World) (hD : DrwOk cs hv) (hk : k ≤ cs.length) (hs : 0 ≤ s ∧ s ≤ 2000) (hO : ∀ f ∈ [mpE ekS2 evI bm (knP cs hv)], f.P w ∧ ∀ b, f.fp b → b < w.heap.size) (hap : [mpE ekS2 evI bm (knP cs hv)].Pairwise (fun f g => ∀ b, f.fp b → ¬ g.fp b)) (hS : ∀ g ∈ [ownB bc (cellsB 23 [.slice Ac cs.length cc]), ownB bk (cellsB 132 [.map (some bm)]), ownB bh (cellsB 23 [.slice Ah hv.length ch]), ownB bf (cellsB 133 [.func (.func 66) #[] #[.pointer (some ⟨bc, 0, none⟩), .pointer (some ⟨bk, 0, none⟩), .pointer (some ⟨bh, 0, none⟩), .pointer (some ⟨bf, 0, none⟩)]]), sl fpc 1 enInt Ac cs, sl fph 1 enInt Ah hv], g.P w ∧ ∀ i, g.fp i → i < w.heap.size ∧ ∀ f ∈ [mpE ekS2 evI bm (knP cs hv)], ¬ f.fp i) (ih : k < cs.length → ∀ (s : Int) (w : World) (_ : 0 ≤ s ∧ s ≤ 2000) (_ : ∀ f ∈ [mpE ekS2 evI bm (knP cs hv)], f.P w ∧ ∀ b, f.fp b → b < w.heap.size) (_ : [mpE ekS2 evI bm (knP cs hv)].Pairwise (fun f g => ∀ b, f.fp b → ¬ g.fp b)) (_ : ∀ g ∈ [ownB bc (cellsB 23 [.slice Ac cs.length cc]), ownB bk (cellsB 132 [.map (some bm)]), ownB bh (cellsB 23 [.slice Ah hv.length ch]), ownB bf (cellsB 133 [.func (.func 66) #[] #[.pointer (some ⟨bc, 0, none⟩), .pointer (some ⟨bk, 0, none⟩), .pointer (some ⟨bh, 0, none⟩), .pointer (some ⟨bf, 0, none⟩)]]), sl fpc 1 enInt Ac cs, sl fph 1 enInt Ah hv], g.P w ∧ ∀ i, g.fp i → i < w.heap.size ∧ ∀ f ∈ [mpE ekS2 evI bm (knP cs hv)], ¬ f.fp i), Calls Tryz.prog 66 #[.agg #[.int .i64 ((k : Nat) + 1), .int .i64 s], .pointer (some ⟨bc, 0, none⟩), .pointer (some ⟨bk, 0, none⟩), .pointer (some ⟨bh, 0, none⟩), .pointer (some ⟨bf, 0, none⟩)] w (fun e w' => ∃ _ : Unit, e = .returned (.int .i64 (few (cs.drop (k + 1)) (hv.drop (k + 1)) s)) ∧ Giv [mpE ekS2 evI bm (knP cs hv)] w w' [mpE ekS2 evI bm (knP cs hv)])) : Calls Tryz.prog 66 #[.agg #[.int .i64 (k : Nat), .int .i64 s], .pointer (some ⟨bc, 0, none⟩), .pointer (some ⟨bk, 0, none⟩), .pointer (some ⟨bh, 0, none⟩), .pointer (some ⟨bf, 0, none⟩)] w (fun e w' => ∃ _ : Unit, e = .returned (.int .i64 (few (cs.drop k) (hv.drop k) s)) ∧ Giv [mpE ekS2 evI bm (knP cs hv)] w w' [mpE ekS2 evI bm (knP cs hv)]) := by
  have hl1 := hD.n
  have hl2 := hD.l
  refine enterO (args := [.agg #[.int .i64 (k : Nat), .int .i64 s], .pointer (some ⟨bc, 0, none⟩), .pointer (some ⟨bk, 0, none⟩), .pointer (some ⟨bh, 0, none⟩), .pointer (some ⟨bf, 0, none⟩)]) [mpE ekS2 evI bm (knP cs hv)] [ownB bc (cellsB 23 [.slice Ac cs.length cc]), ownB bk (cellsB 132 [.map (some bm)]), ownB bh (cellsB 23 [.slice Ah hv.length ch]), ownB bf (cellsB 133 [.func (.func 66) #[] #[.pointer (some ⟨bc, 0, none⟩), .pointer (some ⟨bk, 0, none⟩), .pointer (some ⟨bh, 0, none⟩), .pointer (some ⟨bf, 0, none⟩)]]), sl fpc 1 enInt Ac cs, sl fph 1 enInt Ah hv] Tryz.func66 rfl (by rw [Tryz.ntmps66]; simp) hO hap hS ?_
  refine cj_seq (cj_region ?_)
  refine oj_box rfl rfl rfl (fun b5 => ?_)
  refine oj_step (y_assign rfl) rfl rfl rfl ?_
  refine oj_nil ?_
  refine ej_th (cj_seq (cj_seq ?_))
  refine cj_regionG (gj_step (y_loadN Tryz.isAgg135 Tryz.sizeOf135 rfl) rfl rfl rfl (gj_step (y_loadS1 Tryz.isAgg23 rfl rfl) rfl rfl rfl (gj_step (y_lenA Tryz.underlying23 rfl) rfl rfl rfl (gj_step (y_build (cs := [.int .i64 (cs.length : Nat), .int .i64 0]) st135 rfl (by kernel_rfl)) rfl rfl rfl (gj_step (y_bin rfl rfl (fun x y w => eq135 _ _ _ _ x y w)) rfl rfl rfl (gj_nil ?_))))))
  refine ej_th ?_
  refine cj_cond rfl (fun h15 => ?_) (fun h15 => ?_)
  · have h15b := h15
    try simp only [sxb] at h15
    refine cj_seq ?_
    refine cj_regionG (gj_step (y_assign rfl) rfl rfl rfl (gj_nil ?_))
    refine ej_th (cj_ret (ej_then_ret ?_))
    refine ej_ret1 rfl Tryz.results66 rfl (fun w' hp => ⟨(), ?_, hp.givT _⟩)
    simp only [Bool.and_eq_true, beq_iff_eq] at h15b
    rw [few_end (by omega), if_pos h15b.2]
  · have h15b := h15
    try simp only [sxb] at h15
    refine cj_skip (ej_th (cj_seq (cj_seq ?_)))
    refine cj_regionG (gj_step (y_fa0 fa135_0 rfl) rfl rfl rfl (gj_step (y_load1 Tryz.isAgg3 rfl rfl) rfl rfl rfl (gj_step (y_loadS1 Tryz.isAgg23 rfl rfl) rfl rfl rfl (gj_step (y_lenA Tryz.underlying23 rfl) rfl rfl rfl (gj_step (y_eql rfl rfl) rfl rfl rfl (gj_nil ?_))))))
    refine ej_th ?_
    refine cj_cond rfl (fun h20 => ?_) (fun h20 => ?_)
    · have h20b := h20
      try simp only [sxb] at h20
      refine cj_seq ?_
      refine cj_regionG (gj_step (y_assign rfl) rfl rfl rfl (gj_nil ?_))
      refine ej_th (cj_ret (ej_then_ret ?_))
      refine ej_ret1 rfl Tryz.results66 rfl (fun w' hp => ⟨(), ?_, hp.givT _⟩)
      have hs0 : ¬ s = 0 := fun e => by
        subst e
        simp at h15b
        omega
      rw [few_end (by omega), if_neg hs0]
    · have h20b := h20
      try simp only [sxb] at h20
      have hkl : k < cs.length := by omega
      obtain ⟨c, hcx⟩ : ∃ c, cs[k]? = some c := ⟨_, List.getElem?_eq_getElem (by omega)⟩
      obtain ⟨h, hhx⟩ : ∃ h, hv[k]? = some h := ⟨_, List.getElem?_eq_getElem (by omega)⟩
      have hcb := hD.c c (List.mem_of_getElem? hcx)
      have hhb := hD.h h (List.mem_of_getElem? hhx)
      have hmm := most_eq (c := c) (h := h) (s := s) hhb.1 hcb.1 hs.1
      have hmb := most_bd (c := c) (h := h) (s := s) hcb.1 hhb.1 hs.1
      have hq0 := Int.ediv_nonneg hs.1 (show 0 ≤ c by omega)
      refine cj_skip (ej_th (cj_seq (cj_seq ?_)))
      refine cj_mpO (ek := ekS2) (ev := evI) (b := bm) (knP cs hv) (fun l hl => ?_)
      refine cj_regionG (gj_step (y_loadS1 Tryz.isAgg132 rfl rfl) rfl rfl rfl (gj_step (y_loadN Tryz.isAgg135 Tryz.sizeOf135 rfl) rfl rfl rfl (gj_step (y_lookupA (ek := ekS2) (ev := evI) (kk := ((k : Nat), s)) 0 kaS Tryz.underlying132 Tryz.zeroValue3 rfl rfl) rfl rfl rfl (gj_step (y_move rfl) rfl rfl rfl (gj_step (y_extract rfl rfl) rfl rfl rfl (gj_step (y_extract rfl rfl) rfl rfl rfl (gj_step (y_assign rfl) rfl rfl rfl (gj_step (y_assign rfl) rfl rfl rfl (gj_nil ?_)))))))))
      refine ej_th (cj_seq ?_)
      refine cj_regionG (gj_step (y_move rfl) rfl rfl rfl (gj_nil ?_))
      refine ej_th ?_
      refine cj_cond rfl (fun h27 => ?_) (fun h27 => ?_)
      · have h27b := h27
        try simp only [sxb] at h27
        refine cj_mpC (ek := ekS2) (ev := evI) (b := bm) (knP cs hv) hl ?_
        refine cj_seq ?_
        refine cj_regionG (gj_step (y_move rfl) rfl rfl rfl (gj_step (y_assign rfl) rfl rfl rfl (gj_nil ?_)))
        refine ej_th (cj_ret (ej_then_ret ?_))
        refine ej_ret1 rfl Tryz.results66 rfl (fun w' hp => ⟨(), ?_, hp.givT _⟩)
        obtain ⟨v, hv2⟩ := Option.isSome_iff_exists.1 h27b
        rw [hv2, hl _ _ hv2]; rfl
      · have h27b := h27
        try simp only [sxb] at h27
        refine cj_mpC (ek := ekS2) (ev := evI) (b := bm) (knP cs hv) hl ?_
        refine cj_skip (ej_th (cj_seq ?_))
        refine cj_regionG (gj_step (y_assign rfl) rfl rfl rfl (gj_nil ?_))
        refine ej_th (cj_seq (cj_seq ?_))
        refine cj_draw (by kernel_rfl) (by kernel_rfl) (gj_step (y_loadS1 Tryz.isAgg23 rfl rfl) rfl rfl rfl (gj_step (y_fa0 fa135_0 rfl) rfl rfl rfl (gj_step (y_load1 Tryz.isAgg3 rfl rfl) rfl rfl rfl (gj_step (y_ixR (reads_sl) Tryz.underlying23 Tryz.sizeOf3 rfl rfl (⟨by omega, by omega⟩)) rfl rfl rfl (gj_step (y_ld0 (reads_sl) Tryz.isAgg3 rfl (hhx) rfl) rfl rfl rfl (gj_step (y_fa fa135_1 rfl) rfl rfl rfl (gj_step (y_load1 Tryz.isAgg3 rfl rfl) rfl rfl rfl (gj_step (y_loadS1 Tryz.isAgg23 rfl rfl) rfl rfl rfl (gj_step (y_fa0 fa135_0 rfl) rfl rfl rfl (gj_step (y_load1 Tryz.isAgg3 rfl rfl) rfl rfl rfl (gj_step (y_ixR (reads_sl) Tryz.underlying23 Tryz.sizeOf3 rfl rfl (⟨by omega, by omega⟩)) rfl rfl rfl (gj_step (y_ld0 (reads_sl) Tryz.isAgg3 rfl (hcx) rfl) rfl rfl rfl (gj_step (y_quo rfl rfl (⟨by omega, by omega, by omega⟩)) rfl rfl rfl (gj_step (y_min rfl rfl) rfl rfl rfl (gj_step (y_add rfl rfl (by omega)) rfl rfl rfl (gj_step (y_move rfl) rfl rfl rfl (gj_nil ?_)))))))))))))))))
        refine ej_th (cj_block ?_)
        refine cj_lpic (X := Nat) [(1, _), (2, _), (4, _), (5, _), (6, _), (43, _)] (fun n => n ≤ mostN c h s + 1) (fun n => [(44, .int .i64 (n : Nat)), (9, .int .i64 (fewB (few (cs.drop (k + 1)) (hv.drop (k + 1))) c s n))]) (fun n => mostN c h s + 1 - n) 0 (Nat.zero_le _) ⟨rfl, rfl, rfl, rfl, rfl, rfl, rfl, rfl, trivial⟩ ?_
        rintro n hn
        dsimp only [List.cons_append, List.nil_append]
        refine cj_seq ?_
        refine cj_regionG (gj_step (y_lss rfl rfl) rfl rfl rfl (gj_nil ?_))
        refine ej_th (cj_seq ?_)
        refine cj_cond rfl (fun h45 => ?_) (fun h45 => ?_)
        · have h45b := h45
          try simp only [sxb] at h45
          have hnm : n ≤ mostN c h s := by omega
          have hnc : (n : Int) * c ≤ (mostN c h s : Int) * c := Int.mul_le_mul_of_nonneg_right (by omega) (by omega)
          have hn0 : 0 ≤ (n : Int) * c := Int.mul_nonneg (by omega) (by omega)
          have hf0 := few_nn (cs.drop (k + 1)) (hv.drop (k + 1)) (s - (n : Nat) * c)
          have hf1 := few_le (cs.drop (k + 1)) (hv.drop (k + 1)) (s - (n : Nat) * c)
          refine cj_skip (ej_th (cj_seq (cj_block (cj_seq ?_))))
          refine cj_regionG (gj_step (y_move rfl) rfl rfl rfl (gj_step (y_assign rfl) rfl rfl rfl (gj_nil ?_)))
          refine ej_th ?_
          refine cj_plan 21 (by kernel_rfl) (by kernel_rfl) ?_
          refine pl_y 0 rfl (y_move rfl) rfl rfl rfl rfl (by kernel_rfl) ?_
          refine pl_y 1 rfl (y_move rfl) rfl rfl rfl rfl (by kernel_rfl) ?_
          refine pl_y 2 rfl (y_loadS1 Tryz.isAgg133 rfl rfl) rfl rfl rfl rfl (by kernel_rfl) ?_
          refine pl_y 3 rfl (y_fa0 fa135_0 rfl) rfl rfl rfl rfl (by kernel_rfl) ?_
          refine pl_y 4 rfl (y_load1 Tryz.isAgg3 rfl rfl) rfl rfl rfl rfl (by kernel_rfl) ?_
          refine pl_y 5 rfl (y_add rfl rfl (by omega)) rfl rfl rfl rfl (by kernel_rfl) ?_
          refine pl_y 6 rfl (y_fa fa135_1 rfl) rfl rfl rfl rfl (by kernel_rfl) ?_
          refine pl_y 7 rfl (y_load1 Tryz.isAgg3 rfl rfl) rfl rfl rfl rfl (by kernel_rfl) ?_
          refine pl_y 8 rfl (y_move rfl) rfl rfl rfl rfl (by kernel_rfl) ?_
          refine pl_y 9 rfl (y_loadS1 Tryz.isAgg23 rfl rfl) rfl rfl rfl rfl (by kernel_rfl) ?_
          refine pl_y 10 rfl (y_fa0 fa135_0 rfl) rfl rfl rfl rfl (by kernel_rfl) ?_
          refine pl_y 11 rfl (y_load1 Tryz.isAgg3 rfl rfl) rfl rfl rfl rfl (by kernel_rfl) ?_
          refine pl_y 12 rfl (y_ixR (reads_sl) Tryz.underlying23 Tryz.sizeOf3 rfl rfl (⟨by omega, by omega⟩)) rfl rfl rfl rfl (by kernel_rfl) ?_
          refine pl_y 13 rfl (y_ld0 (reads_sl) Tryz.isAgg3 rfl (hcx) rfl) rfl rfl rfl rfl (by kernel_rfl) ?_
          refine pl_y 14 rfl (y_mul rfl rfl (by omega)) rfl rfl rfl rfl (by kernel_rfl) ?_
          refine pl_y 15 rfl (y_sub rfl rfl (by omega)) rfl rfl rfl rfl (by kernel_rfl) ?_
          refine pl_y 16 rfl (y_build (cs := [.int .i64 ((k : Nat) + 1), .int .i64 (s - (n : Nat) * c)]) st135 rfl (by kernel_rfl)) rfl rfl rfl rfl (by kernel_rfl) ?_
          refine pl_w1 17 (by kernel_rfl) rfl rfl (pl_fire rfl rfl rfl (by kernel_rfl) ?_)
          refine oj_callL (X := Unit) (fun _ => .int .i64 (few (cs.drop (k + 1)) (hv.drop (k + 1)) (s - (n : Nat) * c))) [mpE ekS2 evI bm (knP cs hv)] (fun _ => [mpE ekS2 evI bm (knP cs hv)]) Tryz.call66 rfl rfl (fun w1 hp => by
            obtain ⟨q1, q2, q3⟩ := hp.ownL (Os := [mpE ekS2 evI bm (knP cs hv)]) inferInstance
            exact ih hkl (s - (n : Nat) * c) w1 ⟨by omega, by omega⟩ q1 q2 q3) rfl (fun _ => ?_)
          dsimp only [List.cons_append, List.nil_append]
          refine oj_nil ?_
          refine ej_pl (lt_w (by kernel_rfl) (lt_y (y_sub rfl rfl (by omega)) rfl (lt_y (y_mul rfl rfl (by omega)) rfl (lt_y (y_ld0 (reads_sl) Tryz.isAgg3 rfl (hcx) rfl) rfl (lt_y (y_ixR (reads_sl) Tryz.underlying23 Tryz.sizeOf3 rfl rfl (⟨by omega, by omega⟩)) rfl (lt_y (y_load1 Tryz.isAgg3 rfl rfl) rfl (lt_y (y_fa0 fa135_0 rfl) rfl (lt_y (y_loadS1 Tryz.isAgg23 rfl rfl) rfl (lt_y (y_move rfl) rfl (lt_y (y_load1 Tryz.isAgg3 rfl rfl) rfl (lt_y (y_fa fa135_1 rfl) rfl (lt_y (y_add rfl rfl (by omega)) rfl (lt_y (y_load1 Tryz.isAgg3 rfl rfl) rfl (lt_y (y_fa0 fa135_0 rfl) rfl (lt_w (by kernel_rfl) (lt_y (y_move rfl) rfl (lt_y (y_move rfl) rfl (lt_nil)))))))))))))))))) ?_
          refine pl_y 18 rfl (y_add rfl rfl (by omega)) rfl rfl rfl rfl (by kernel_rfl) ?_
          refine pl_y 19 rfl (y_min rfl rfl) rfl rfl rfl rfl (by kernel_rfl) ?_
          refine pl_y 20 rfl (y_assign rfl) rfl rfl rfl rfl (by kernel_rfl) ?_
          refine pl_end (by kernel_rfl) ?_
          refine ej_blk (ej_th ?_)
          refine cj_regionG (gj_step (y_add rfl rfl (by omega)) rfl rfl rfl (gj_step (y_move rfl) rfl rfl rfl (gj_nil ?_)))
          exact ej_nx (n + 1) (by omega) (by omega) ⟨rfl, rfl, rfl, rfl, rfl, rfl, rfl, rfl, trivial⟩
        · have h45b := h45
          try simp only [sxb] at h45
          have hn : n = mostN c h s + 1 := by omega
          subst hn
          have hfin : fewB (few (cs.drop (k + 1)) (hv.drop (k + 1))) c s (mostN c h s + 1) = fewK cs hv ((k : Nat), s) := (few_at s hcx hhx).symm
          refine cj_exit (ej_then_exit (ej_then_exit (ej_blk_hit (ej_th (cj_seq ?_)))))
          refine cj_mpO (ek := ekS2) (ev := evI) (b := bm) (knP cs hv) (fun l2 hl2 => ?_)
          refine cj_region ?_
          refine oj_step (y_loadS1 Tryz.isAgg132 rfl rfl) rfl rfl rfl ?_
          refine oj_step (y_loadN Tryz.isAgg135 Tryz.sizeOf135 rfl) rfl rfl rfl ?_
          refine oj_step (y_move rfl) rfl rfl rfl ?_
          refine oj_mapUpdateA (ek := ekS2) (ev := evI) (kk := ((k : Nat), s)) (v := fewB (few (cs.drop (k + 1)) (hv.drop (k + 1))) c s (mostN c h s + 1)) kaS Tryz.underlying132 rfl rfl rfl ?_
          refine oj_nil ?_
          refine ej_th (cj_seq ?_)
          refine cj_mpC (ek := ekS2) (ev := evI) (b := bm) (knP cs hv) (knP_put hl2 hfin) ?_
          refine cj_regionG (gj_step (y_move rfl) rfl rfl rfl (gj_step (y_assign rfl) rfl rfl rfl (gj_nil ?_)))
          refine ej_th (cj_ret ?_)
          refine ej_ret1 rfl Tryz.results66 rfl (fun w' hp => ⟨(), ?_, hp.givT _⟩)
          rw [hfin]; rfl

end Go.Proofs.YtppfniekcgnmjaaGreat.Ti
namespace Go.Proofs.YtppfniekcgnmjaaGreat.Ti
open Go.Sx Go.RowKit
set_option maxRecDepth 20000
theorem el23 : ElemIs Tryz.prog 23 3 1 8 := ⟨⟨_, (.int .i64 0), Tryz.underlying23, Tryz.type3, by kernel_rfl, by kernel_rfl, by kernel_rfl, by kernel_rfl, by decide⟩⟩
end Go.Proofs.YtppfniekcgnmjaaGreat.Ti
namespace Go.Proofs.YtppfniekcgnmjaaGreat.Ti
open Go.Sx Go.RowKit Um
set_option maxRecDepth 20000
theorem k_few (cs hv : List Int) (Ac Ah : Option Addr) (cc ch : Nat) (fpc fph : Nat → Prop) (bc bk bh bf bm : Nat) (hD : DrwOk cs hv) : ∀ (d k : Nat) (s : Int) (w : World) (_ : k + d = cs.length) (_ : 0 ≤ s ∧ s ≤ 2000) (_ : ∀ f ∈ [mpE ekS2 evI bm (knP cs hv)], f.P w ∧ ∀ b, f.fp b → b < w.heap.size) (_ : [mpE ekS2 evI bm (knP cs hv)].Pairwise (fun f g => ∀ b, f.fp b → ¬ g.fp b)) (_ : ∀ g ∈ [ownB bc (cellsB 23 [.slice Ac cs.length cc]), ownB bk (cellsB 132 [.map (some bm)]), ownB bh (cellsB 23 [.slice Ah hv.length ch]), ownB bf (cellsB 133 [.func (.func 66) #[] #[.pointer (some ⟨bc, 0, none⟩), .pointer (some ⟨bk, 0, none⟩), .pointer (some ⟨bh, 0, none⟩), .pointer (some ⟨bf, 0, none⟩)]]), sl fpc 1 enInt Ac cs, sl fph 1 enInt Ah hv], g.P w ∧ ∀ i, g.fp i → i < w.heap.size ∧ ∀ f ∈ [mpE ekS2 evI bm (knP cs hv)], ¬ f.fp i), Calls Tryz.prog 66 #[.agg #[.int .i64 (k : Nat), .int .i64 s], .pointer (some ⟨bc, 0, none⟩), .pointer (some ⟨bk, 0, none⟩), .pointer (some ⟨bh, 0, none⟩), .pointer (some ⟨bf, 0, none⟩)] w (fun e w' => ∃ _ : Unit, e = .returned (.int .i64 (few (cs.drop k) (hv.drop k) s)) ∧ Giv [mpE ekS2 evI bm (knP cs hv)] w w' [mpE ekS2 evI bm (knP cs hv)]) := by
  intro d
  induction d with
  | zero => intro k s w hk hs hO hap hS; exact k_few1 cs hv Ac Ah cc ch fpc fph bc bk bh bf bm k s w hD (by omega) hs hO hap hS (fun h => absurd h (by omega))
  | succ d ih => intro k s w hk hs hO hap hS; exact k_few1 cs hv Ac Ah cc ch fpc fph bc bk bh bf bm k s w hD (by omega) hs hO hap hS (fun _ s w hs hO hap hS => ih (k + 1) s w (by omega) hs hO hap hS)

set_option maxHeartbeats 2000000 in
theorem k_pay (cs hv : List Int) (Ac Ah : Option Addr) (cc ch : Nat) (s : Int) (w : World) (hc : Rd w 1 enInt Ac cs) (hh : Rd w 1 enInt Ah hv) (hD : DrwOk cs hv) (hs : 0 ≤ s ∧ s ≤ 2000) : Calls Tryz.prog 35 #[.slice Ac cs.length cc, .slice Ah hv.length ch, .int .i64 s] w (fun e w' => ∃ A c, e = .returned (.tuple #[.slice A (if few cs hv s < 1073741824 then payL cs hv s else []).length c, .int .i64 (if few cs hv s < 1073741824 then 0 else 4)]) ∧ Grow w w' ∧ Res w w' 1 enInt A (if few cs hv s < 1073741824 then payL cs hv s else [])) := by
  have hl1 := hD.n
  have hl2 := hD.l
  have hlc := hc.len
  refine enter_pure (args := [.slice Ac cs.length cc, .slice Ah hv.length ch, .int .i64 s]) [sl (fun b => b < w.heap.size) 1 enInt Ac cs, sl (fun b => b < w.heap.size) 1 enInt Ah hv] Tryz.func35 rfl (by rw [Tryz.ntmps35]; simp) (fun g hg => by simp at hg; rcases hg with rfl | rfl; exact ⟨hc, fun _ h => h⟩; exact ⟨hh, fun _ h => h⟩) ?_
  refine cj_seq (cj_region ?_)
  refine oj_box rfl rfl rfl (fun b3 => ?_)
  refine oj_box rfl rfl rfl (fun b4 => ?_)
  refine oj_step (y_assign rfl) rfl rfl rfl ?_
  refine oj_step (y_assign rfl) rfl rfl rfl ?_
  refine oj_nil ?_
  refine ej_th (cj_seq (cj_region ?_))
  refine oj_makeMap ekS2 evI rfl (fun b15 => ?_)
  refine oj_alloc Tryz.zeroValue132 rfl rfl (fun b8 => ?_)
  refine oj_store rfl rfl rfl rfl Tryz.sizeOf132 rfl ?_
  refine oj_nil ?_
  refine ej_th (cj_seq (cj_region ?_))
  refine oj_alloc Tryz.zeroValue133 rfl rfl (fun b9 => ?_)
  refine oj_nil ?_
  refine ej_th (cj_seq (cj_region ?_))
  refine oj_step (y_makeFunc rfl rfl) rfl rfl rfl ?_
  refine oj_store rfl rfl rfl rfl Tryz.sizeOf133 rfl ?_
  refine oj_nil ?_
  refine ej_th (cj_seq (cj_region ?_))
  refine oj_step (y_move rfl) rfl rfl rfl ?_
  refine oj_step (y_build (cs := [.int .i64 0, .int .i64 s]) st135 rfl (by kernel_rfl)) rfl rfl rfl ?_
  refine oj_alloc Tryz.zeroValue135 rfl rfl (fun b10 => ?_)
  refine oj_store rfl rfl rfl rfl Tryz.sizeOf135 rfl ?_
  refine oj_nil ?_
  refine ej_th (cj_seq (cj_seq ?_))
  refine cj_mpC (ek := ekS2) (ev := evI) (b := b15) (knP cs hv) (knP_nil cs hv) ?_
  refine cj_region ?_
  refine oj_step (y_load1 Tryz.isAgg133 rfl rfl) rfl rfl rfl ?_
  refine oj_step (y_loadN Tryz.isAgg135 Tryz.sizeOf135 rfl) rfl rfl rfl ?_
  refine oj_callL (X := Unit) (fun _ => .int .i64 (few (cs.drop 0) (hv.drop 0) s)) [mpE ekS2 evI b15 (knP cs hv)] (fun _ => [mpE ekS2 evI b15 (knP cs hv)]) Tryz.call66 rfl rfl (fun w1 hp => by
    obtain ⟨q1, q2, q3⟩ := hp.ownL (Os := [mpE ekS2 evI b15 (knP cs hv)]) inferInstance
    have q4 := hp.ownR (Os := [mpE ekS2 evI b15 (knP cs hv)]) inferInstance
    exact k_few cs hv Ac Ah cc ch (fun b => b < w.heap.size) (fun b => b < w.heap.size) b3 b8 b4 b9 b15 hD (cs.length - 0) 0 s w1 (by omega) ⟨by omega, by omega⟩ q1 q2 (fun g hg => by
      simp only [List.mem_cons, List.mem_nil_iff, or_false] at hg
      rcases hg with rfl | rfl | rfl | rfl | rfl | rfl
      · exact q4 _ HasB.mem
      · exact q4 _ HasB.mem
      · exact q4 _ HasB.mem
      · exact q4 _ HasB.mem
      · exact q3 _ HasSl.mem
      · exact q3 _ HasSl.mem)) rfl (fun _ => ?_)
  dsimp only [List.cons_append, List.nil_append]
  refine oj_step (y_geq rfl rfl) rfl rfl rfl ?_
  refine oj_nil ?_
  refine ej_th ?_
  refine cj_cond rfl (fun h22 => ?_) (fun h22 => ?_)
  · have h22b := h22
    try simp only [sxb] at h22
    refine cj_seq ?_
    refine cj_regionG (gj_step (y_assign rfl) rfl rfl rfl (gj_step (y_assign rfl) rfl rfl rfl (gj_nil ?_)))
    refine ej_th (cj_ret (ej_then_ret ?_))
    have hfs : ¬ few cs hv s < 1073741824 := by have h7 : few (cs.drop 0) (hv.drop 0) s = few cs hv s := rfl; omega
    rw [if_neg hfs, if_neg hfs]
    exact ej_ret2 rfl Tryz.results35 rfl rfl (fun w' hp => ⟨none, 0, rfl, hp.below, Res.nil⟩)
  · have h22b := h22
    try simp only [sxb] at h22
    have hfs : few cs hv s < 1073741824 := by have h7 : few (cs.drop 0) (hv.drop 0) s = few cs hv s := rfl; omega
    refine cj_skip (ej_th (cj_seq ?_))
    skip
    refine cj_regionG (gj_step (y_assign rfl) rfl rfl rfl (gj_nil ?_))
    refine ej_th (cj_seq (cj_seq ?_))
    refine cj_ownNil 3 1 enInt ?_
    refine cj_takes [mpE ekS2 evI b15 (knP cs hv), ow 3 1 enInt none 0 [], ownB b10 (cellsB 135 [.int .i64 (0 : Nat), .int .i64 s]), ownB b9 (cellsB 133 [.func (.func 66) #[] #[.pointer (some ⟨b3, 0, none⟩), .pointer (some ⟨b8, 0, none⟩), .pointer (some ⟨b4, 0, none⟩), .pointer (some ⟨b9, 0, none⟩)]]), ownB b8 (cellsB 132 [.map (some b15)]), ownB b4 (cellsB 23 [.slice Ah hv.length ch]), ownB b3 (cellsB 23 [.slice Ac cs.length cc])] ?_
    refine cj_regionG (gj_step (y_load1 Tryz.isAgg23 rfl rfl) rfl rfl rfl (gj_step (y_lenA Tryz.underlying23 rfl) rfl rfl rfl (gj_step (y_move rfl) rfl rfl rfl (gj_nil ?_))))
    refine ej_th (cj_block ?_)
    refine cj_lpi (X := Nat × Int × List Int × Option Addr × Nat) [(4, _), (6, _), (7, _), (9, _), (10, _), (23, _), (24, _)] (fun ⟨k, u, out, Ao, co⟩ => k ≤ cs.length ∧ (0 ≤ u ∧ u ≤ 2000) ∧ few (cs.drop k) (hv.drop k) u < 1073741824 ∧ out ++ payL (cs.drop k) (hv.drop k) u = payL cs hv s ∧ out.length = k) (fun ⟨k, u, out, Ao, co⟩ => [(25, .int .i64 (k : Nat)), (11, .slice Ao out.length co)]) (fun ⟨k, u, out, Ao, co⟩ => [mpE ekS2 evI b15 (knP cs hv), ow 3 1 enInt Ao co out, ownB b10 (cellsB 135 [.int .i64 (k : Nat), .int .i64 u]), ownB b9 (cellsB 133 [.func (.func 66) #[] #[.pointer (some ⟨b3, 0, none⟩), .pointer (some ⟨b8, 0, none⟩), .pointer (some ⟨b4, 0, none⟩), .pointer (some ⟨b9, 0, none⟩)]]), ownB b8 (cellsB 132 [.map (some b15)]), ownB b4 (cellsB 23 [.slice Ah hv.length ch]), ownB b3 (cellsB 23 [.slice Ac cs.length cc])]) (fun ⟨k, u, out, Ao, co⟩ => [sl (fun b => b < w.heap.size) 1 enInt Ac cs, sl (fun b => b < w.heap.size) 1 enInt Ah hv]) (fun ⟨k, u, out, Ao, co⟩ => cs.length - k) (0, s, [], none, 0) (⟨Nat.zero_le _, hs, hfs, rfl, rfl⟩) ⟨rfl, rfl, rfl, rfl, rfl, rfl, rfl, rfl, rfl, trivial⟩ ?_
    rintro ⟨k, u, out, Ao, co⟩ ⟨hk, hub, hfu, hso, hlo⟩
    dsimp only [List.cons_append, List.nil_append]
    refine cj_seq ?_
    refine cj_regionG (gj_step (y_lss rfl rfl) rfl rfl rfl (gj_nil ?_))
    refine ej_th (cj_seq ?_)
    refine cj_cond rfl (fun h26 => ?_) (fun h26 => ?_)
    · have h26b := h26
      try simp only [sxb] at h26
      obtain ⟨c, hcx⟩ : ∃ c, cs[k]? = some c := ⟨_, List.getElem?_eq_getElem (by omega)⟩
      obtain ⟨h, hhx⟩ : ∃ h, hv[k]? = some h := ⟨_, List.getElem?_eq_getElem (by omega)⟩
      have hcb := hD.c c (List.mem_of_getElem? hcx)
      have hhb := hD.h h (List.mem_of_getElem? hhx)
      have hmm := most_eq (c := c) (h := h) (s := u) hhb.1 hcb.1 hub.1
      have hmb := most_bd (c := c) (h := h) (s := u) hcb.1 hhb.1 hub.1
      have hq0 := Int.ediv_nonneg hub.1 (show 0 ≤ c by omega)
      have hfa := few_at u hcx hhx
      obtain ⟨m, hm1, hm2⟩ := fewB_att (by rw [← hfa]; exact hfu)
      rw [← hfa] at hm2
      have hpa := pay_at u hcx hhx
      refine cj_skip (ej_th (cj_seq (cj_block (cj_seq ?_))))
      refine cj_regionG (gj_step (y_move rfl) rfl rfl rfl (gj_step (y_ixR (reads_sl) Tryz.underlying23 Tryz.sizeOf3 rfl rfl (⟨by omega, by omega⟩)) rfl rfl rfl (gj_step (y_ld0 (reads_sl) Tryz.isAgg3 rfl (hcx) rfl) rfl rfl rfl (gj_step (y_assign rfl) rfl rfl rfl (gj_step (y_assign rfl) rfl rfl rfl (gj_nil ?_))))))
      refine ej_th (cj_seq ?_)
      refine cj_draw (by kernel_rfl) (by kernel_rfl) (gj_step (y_load1 Tryz.isAgg23 rfl rfl) rfl rfl rfl (gj_step (y_move rfl) rfl rfl rfl (gj_step (y_ixR (reads_sl) Tryz.underlying23 Tryz.sizeOf3 rfl rfl (⟨by omega, by omega⟩)) rfl rfl rfl (gj_step (y_ld0 (reads_sl) Tryz.isAgg3 rfl (hhx) rfl) rfl rfl rfl (gj_step (y_fa fa135_1 rfl) rfl rfl rfl (gj_step (y_load1 Tryz.isAgg3 rfl rfl) rfl rfl rfl (gj_step (y_move rfl) rfl rfl rfl (gj_step (y_quo rfl rfl (⟨by omega, by omega, by omega⟩)) rfl rfl rfl (gj_step (y_min rfl rfl) rfl rfl rfl (gj_step (y_assign rfl) rfl rfl rfl (gj_nil ?_)))))))))))
      refine ej_th (cj_seq (cj_block ?_))
      rw [show min h (u / c) = ((mostN c h u : Nat) : Int) from hmm.symm]
      refine cj_lpic (X := Nat) [(25, _), (11, _), (4, _), (6, _), (7, _), (9, _), (10, _), (23, _), (24, _), (12, _), (13, _)] (fun n => n ≤ mostN c h u ∧ m ≤ n ∧ descN (few (cs.drop (k + 1)) (hv.drop (k + 1))) c u (few (cs.drop k) (hv.drop k) u) (mostN c h u) = descN (few (cs.drop (k + 1)) (hv.drop (k + 1))) c u (few (cs.drop k) (hv.drop k) u) n) (fun n => [(14, .int .i64 (n : Nat))]) (fun n => n) (mostN c h u) (⟨Nat.le_refl _, by omega, rfl⟩) ⟨rfl, rfl, rfl, rfl, rfl, rfl, rfl, rfl, rfl, rfl, rfl, rfl, trivial⟩ ?_
      rintro n ⟨hn, hmn, hsn⟩
      dsimp only [List.cons_append, List.nil_append]
      have hnc : (n : Int) * c ≤ (mostN c h u : Int) * c := Int.mul_le_mul_of_nonneg_right (by omega) (by omega)
      have hn0 : 0 ≤ (n : Int) * c := Int.mul_nonneg (by omega) (by omega)
      have hf0 := few_nn (cs.drop (k + 1)) (hv.drop (k + 1)) (u - (n : Nat) * c)
      have hf1 := few_le (cs.drop (k + 1)) (hv.drop (k + 1)) (u - (n : Nat) * c)
      have hg0 := few_nn (cs.drop k) (hv.drop k) u
      refine cj_seq ?_
      refine cj_cutic (X := Unit) [(14, _), (25, _), (11, _), (4, _), (6, _), (7, _), (9, _), (10, _), (23, _), (24, _), (12, _), (13, _)] ⟨rfl, rfl, rfl, rfl, rfl, rfl, rfl, rfl, rfl, rfl, rfl, rfl, trivial⟩ (fun _ => True) (fun _ => [(55, .bool (((n : Nat) : Int) + few (cs.drop (k + 1)) (hv.drop (k + 1)) (u - (n : Nat) * c) != (few (cs.drop k) (hv.drop k) u)))]) ?_ ?_
      · refine cj_plan 17 (by kernel_rfl) (by kernel_rfl) ?_
        refine pl_y 0 rfl (y_move rfl) rfl rfl rfl rfl (by kernel_rfl) ?_
        refine pl_y 1 rfl (y_load1 Tryz.isAgg133 rfl rfl) rfl rfl rfl rfl (by kernel_rfl) ?_
        refine pl_y 2 rfl (y_move rfl) rfl rfl rfl rfl (by kernel_rfl) ?_
        refine pl_y 3 rfl (y_add rfl rfl (by omega)) rfl rfl rfl rfl (by kernel_rfl) ?_
        refine pl_y 4 rfl (y_fa fa135_1 rfl) rfl rfl rfl rfl (by kernel_rfl) ?_
        refine pl_y 5 rfl (y_load1 Tryz.isAgg3 rfl rfl) rfl rfl rfl rfl (by kernel_rfl) ?_
        refine pl_y 6 rfl (y_move rfl) rfl rfl rfl rfl (by kernel_rfl) ?_
        refine pl_y 7 rfl (y_move rfl) rfl rfl rfl rfl (by kernel_rfl) ?_
        refine pl_y 8 rfl (y_mul rfl rfl (by omega)) rfl rfl rfl rfl (by kernel_rfl) ?_
        refine pl_y 9 rfl (y_sub rfl rfl (by omega)) rfl rfl rfl rfl (by kernel_rfl) ?_
        refine pl_y 10 rfl (y_build (cs := [.int .i64 ((k : Nat) + 1), .int .i64 (u - (n : Nat) * c)]) st135 rfl (by kernel_rfl)) rfl rfl rfl rfl (by kernel_rfl) ?_
        refine pl_y 13 rfl (y_load1 Tryz.isAgg133 rfl rfl) rfl rfl rfl rfl (by kernel_rfl) ?_
        refine pl_y 14 rfl (y_loadN Tryz.isAgg135 Tryz.sizeOf135 rfl) rfl rfl rfl rfl (by kernel_rfl) ?_
        refine pl_w1 11 (by kernel_rfl) rfl rfl (pl_fire rfl rfl rfl (by kernel_rfl) ?_)
        refine oj_callL (X := Unit) (fun _ => .int .i64 (few (cs.drop (k + 1)) (hv.drop (k + 1)) (u - (n : Nat) * c))) [mpE ekS2 evI b15 (knP cs hv)] (fun _ => [mpE ekS2 evI b15 (knP cs hv)]) Tryz.call66 rfl rfl (fun w1 hp => by
          obtain ⟨q1, q2, q3⟩ := hp.ownL (Os := [mpE ekS2 evI b15 (knP cs hv)]) inferInstance
          have q4 := hp.ownR (Os := [mpE ekS2 evI b15 (knP cs hv)]) inferInstance
          rw [show ((k : Nat) : Int) + 1 = ((k + 1 : Nat) : Int) by omega]
          exact k_few cs hv Ac Ah cc ch (fun b => b < w.heap.size) (fun b => b < w.heap.size) b3 b8 b4 b9 b15 hD (cs.length - (k + 1)) (k + 1) (u - (n : Nat) * c) w1 (by omega) ⟨by omega, by omega⟩ q1 q2 (fun g hg => by
            simp only [List.mem_cons, List.mem_nil_iff, or_false] at hg
            rcases hg with rfl | rfl | rfl | rfl | rfl | rfl
            · exact q4 _ HasB.mem
            · exact q4 _ HasB.mem
            · exact q4 _ HasB.mem
            · exact q4 _ HasB.mem
            · exact q3 _ HasSl.mem
            · exact q3 _ HasSl.mem)) rfl (fun _ => ?_)
        dsimp only [List.cons_append, List.nil_append]
        refine oj_nil ?_
        refine ej_pl (lt_y (y_loadN Tryz.isAgg135 Tryz.sizeOf135 rfl) rfl (lt_y (y_load1 Tryz.isAgg133 rfl rfl) rfl (lt_w (by kernel_rfl) (lt_y (y_sub rfl rfl (by omega)) rfl (lt_y (y_mul rfl rfl (by omega)) rfl (lt_y (y_move rfl) rfl (lt_y (y_move rfl) rfl (lt_y (y_load1 Tryz.isAgg3 rfl rfl) rfl (lt_y (y_fa fa135_1 rfl) rfl (lt_y (y_add rfl rfl (by omega)) rfl (lt_y (y_move rfl) rfl (lt_w (by kernel_rfl) (lt_y (y_move rfl) rfl (lt_nil)))))))))))))) ?_
        refine pl_y 12 rfl (y_add rfl rfl (by omega)) rfl rfl rfl rfl (by kernel_rfl) ?_
        refine pl_w1 15 (by kernel_rfl) rfl rfl (pl_fire rfl rfl rfl (by kernel_rfl) ?_)
        refine oj_callL (X := Unit) (fun _ => .int .i64 (few (cs.drop k) (hv.drop k) u)) [mpE ekS2 evI b15 (knP cs hv)] (fun _ => [mpE ekS2 evI b15 (knP cs hv)]) Tryz.call66 rfl rfl (fun w1 hp => by
          obtain ⟨q1, q2, q3⟩ := hp.ownL (Os := [mpE ekS2 evI b15 (knP cs hv)]) inferInstance
          have q4 := hp.ownR (Os := [mpE ekS2 evI b15 (knP cs hv)]) inferInstance
          exact k_few cs hv Ac Ah cc ch (fun b => b < w.heap.size) (fun b => b < w.heap.size) b3 b8 b4 b9 b15 hD (cs.length - k) k u w1 (by omega) ⟨by omega, by omega⟩ q1 q2 (fun g hg => by
            simp only [List.mem_cons, List.mem_nil_iff, or_false] at hg
            rcases hg with rfl | rfl | rfl | rfl | rfl | rfl
            · exact q4 _ HasB.mem
            · exact q4 _ HasB.mem
            · exact q4 _ HasB.mem
            · exact q4 _ HasB.mem
            · exact q3 _ HasSl.mem
            · exact q3 _ HasSl.mem)) rfl (fun _ => ?_)
        dsimp only [List.cons_append, List.nil_append]
        refine oj_nil ?_
        refine ej_pl (lt_y (y_add rfl rfl (by omega)) rfl (lt_w (by kernel_rfl) (lt_w (by kernel_rfl) (lt_y (y_build (cs := [.int .i64 ((k : Nat) + 1), .int .i64 (u - (n : Nat) * c)]) st135 rfl (by kernel_rfl)) rfl (lt_y (y_sub rfl rfl (by omega)) rfl (lt_y (y_mul rfl rfl (by omega)) rfl (lt_y (y_move rfl) rfl (lt_y (y_move rfl) rfl (lt_y (y_load1 Tryz.isAgg3 rfl rfl) rfl (lt_y (y_fa fa135_1 rfl) rfl (lt_y (y_add rfl rfl (by omega)) rfl (lt_y (y_move rfl) rfl (lt_y (y_load1 Tryz.isAgg133 rfl rfl) rfl (lt_y (y_move rfl) rfl (lt_nil))))))))))))))) ?_
        refine pl_y 16 rfl (y_neq rfl rfl) rfl rfl rfl rfl (by kernel_rfl) ?_
        refine pl_end (by kernel_rfl) ?_
        exact ej_ct () trivial ⟨rfl, rfl, rfl, rfl, rfl, rfl, rfl, rfl, rfl, rfl, rfl, rfl, rfl, trivial⟩
      · rintro ⟨⟩ -
        dsimp only [List.cons_append, List.nil_append]
        refine cj_cond rfl (fun h55 => ?_) (fun h55 => ?_)
        · have h55b := h55
          try simp only [sxb] at h55
          have hn1 : 1 ≤ n := by
            by_cases e : n = 0
            · subst e
              have : m = 0 := by omega
              subst this
              exact absurd hm2 h55
            · omega
          refine cj_skip (ej_th (cj_block ?_))
          refine cj_regionG (gj_step (y_move rfl) rfl rfl rfl (gj_step (y_sub rfl rfl (by omega)) rfl rfl rfl (gj_step (y_assign rfl) rfl rfl rfl (gj_nil ?_))))
          refine ej_blk ?_
          rw [show ((n : Nat) : Int) - 1 = ((n - 1 : Nat) : Int) by omega]
          exact ej_nx (n - 1) (by omega) ⟨by omega, by by_cases e : m = n; exact absurd (by rw [← e]; exact hm2) h55; omega, by rw [hsn]; exact descN_down h55⟩ ⟨rfl, rfl, rfl, rfl, rfl, rfl, rfl, rfl, rfl, rfl, rfl, rfl, trivial⟩
        · have h55b := h55
          try simp only [sxb] at h55
          have heq : ((n : Nat) : Int) + few (cs.drop (k + 1)) (hv.drop (k + 1)) (u - (n : Nat) * c) = (few (cs.drop k) (hv.drop k) u) := by omega
          rw [hsn, descN_stop heq] at hpa
          refine cj_exit (ej_then_exit (ej_then_exit (ej_blk_hit (ej_th ?_))))
          refine cj_plan 15 (by kernel_rfl) (by kernel_rfl) ?_
          refine pl_y 0 rfl (y_move rfl) rfl rfl rfl rfl (by kernel_rfl) ?_
          refine pl_y 1 rfl (y_move rfl) rfl rfl rfl rfl (by kernel_rfl) ?_
          refine pl_y 4 rfl (y_move rfl) rfl rfl rfl rfl (by kernel_rfl) ?_
          refine pl_y 5 rfl (y_add rfl rfl (by omega)) rfl rfl rfl rfl (by kernel_rfl) ?_
          refine pl_y 6 rfl (y_fa fa135_1 rfl) rfl rfl rfl rfl (by kernel_rfl) ?_
          refine pl_y 7 rfl (y_load1 Tryz.isAgg3 rfl rfl) rfl rfl rfl rfl (by kernel_rfl) ?_
          refine pl_y 8 rfl (y_move rfl) rfl rfl rfl rfl (by kernel_rfl) ?_
          refine pl_y 9 rfl (y_move rfl) rfl rfl rfl rfl (by kernel_rfl) ?_
          refine pl_y 10 rfl (y_mul rfl rfl (by omega)) rfl rfl rfl rfl (by kernel_rfl) ?_
          refine pl_y 11 rfl (y_sub rfl rfl (by omega)) rfl rfl rfl rfl (by kernel_rfl) ?_
          refine pl_y 12 rfl (y_build (cs := [.int .i64 ((k : Nat) + 1), .int .i64 (u - (n : Nat) * c)]) st135 rfl (by kernel_rfl)) rfl rfl rfl rfl (by kernel_rfl) ?_
          refine pl_w1 2 (by kernel_rfl) rfl rfl (pl_fire rfl rfl rfl (by kernel_rfl) ?_)
          refine oj_buildSlice (cs := [.int .i64 (n : Nat)]) [.int .i64 0] Tryz.underlying23 Tryz.sizeOf3 Tryz.zeroValue3 rfl rfl (by kernel_rfl) (by kernel_rfl) rfl (fun b60 => ?_)
          refine oj_nil ?_
          refine ej_pl (lt_y (y_build (cs := [.int .i64 ((k : Nat) + 1), .int .i64 (u - (n : Nat) * c)]) st135 rfl (by kernel_rfl)) rfl (lt_y (y_sub rfl rfl (by omega)) rfl (lt_y (y_mul rfl rfl (by omega)) rfl (lt_y (y_move rfl) rfl (lt_y (y_move rfl) rfl (lt_y (y_load1 Tryz.isAgg3 rfl rfl) rfl (lt_y (y_fa fa135_1 rfl) rfl (lt_y (y_add rfl rfl (by omega)) rfl (lt_y (y_move rfl) rfl (lt_w (by kernel_rfl) (lt_y (y_move rfl) rfl (lt_nil)))))))))))) ?_
          refine pl_w1 3 (by kernel_rfl) rfl rfl (pl_fire rfl rfl rfl (by kernel_rfl) ?_)
          refine oj_append  el23 (fun _ => rfl) enInt_one rfl rfl rfl (reads_lit [((n : Nat) : Int)] (fun _ => rfl) rfl) (by unfold maxLen; simp only [List.length_cons, List.length_nil]; omega) (by simp only [List.length_cons, List.length_nil]; omega) rfl (fun A61 c61 => ?_)
          refine oj_nil ?_
          refine ej_pl (lt_y (y_build (cs := [.int .i64 ((k : Nat) + 1), .int .i64 (u - (n : Nat) * c)]) st135 rfl (by kernel_rfl)) rfl (lt_y (y_sub rfl rfl (by omega)) rfl (lt_y (y_mul rfl rfl (by omega)) rfl (lt_y (y_move rfl) rfl (lt_y (y_move rfl) rfl (lt_y (y_load1 Tryz.isAgg3 rfl rfl) rfl (lt_y (y_fa fa135_1 rfl) rfl (lt_y (y_add rfl rfl (by omega)) rfl (lt_y (y_move rfl) rfl (lt_y (y_move rfl) rfl (lt_w (by kernel_rfl) (lt_nil)))))))))))) ?_
          refine pl_y 13 rfl (y_assign rfl) rfl rfl rfl rfl (by kernel_rfl) ?_
          refine pl_w1 14 (by kernel_rfl) rfl rfl (pl_fire rfl rfl rfl (by kernel_rfl) ?_)
          refine oj_store rfl rfl rfl rfl Tryz.sizeOf135 rfl ?_
          refine oj_nil ?_
          refine ej_pl (lt_w (by kernel_rfl) (lt_w (by kernel_rfl) (lt_w (by kernel_rfl) (lt_w (by kernel_rfl) (lt_w (by kernel_rfl) (lt_w (by kernel_rfl) (lt_w (by kernel_rfl) (lt_w (by kernel_rfl) (lt_w (by kernel_rfl) (lt_w (by kernel_rfl) (lt_w (by kernel_rfl) (lt_w (by kernel_rfl) (lt_nil))))))))))))) ?_
          refine pl_end (by kernel_rfl) ?_
          refine ej_blk (ej_th ?_)
          refine cj_regionG (gj_step (y_add rfl rfl (by omega)) rfl rfl rfl (gj_step (y_move rfl) rfl rfl rfl (gj_nil ?_)))
          rw [show ((k : Nat) : Int) + 1 = ((k + 1 : Nat) : Int) by omega]
          refine ej_takes [mpE ekS2 evI b15 (knP cs hv), ow 3 1 enInt A61 c61 (out ++ [((n : Nat) : Int)]), ownB b10 (cellsB 135 [.int .i64 ((k + 1) : Nat), .int .i64 (u - (n : Nat) * c)]), ownB b9 (cellsB 133 [.func (.func 66) #[] #[.pointer (some ⟨b3, 0, none⟩), .pointer (some ⟨b8, 0, none⟩), .pointer (some ⟨b4, 0, none⟩), .pointer (some ⟨b9, 0, none⟩)]]), ownB b8 (cellsB 132 [.map (some b15)]), ownB b4 (cellsB 23 [.slice Ah hv.length ch]), ownB b3 (cellsB 23 [.slice Ac cs.length cc])] ?_
          exact ej_nx (k + 1, (u - (n : Nat) * c), out ++ [((n : Nat) : Int)], A61, c61) (by first | omega | (simp only; omega)) ⟨by first | omega | (simp only; omega), ⟨by first | omega | (simp only; omega), by first | omega | (simp only; omega)⟩, by first | omega | (simp only; omega), by rw [← hso, hpa, List.append_assoc]; rfl, by simp only [List.length_append, List.length_cons, List.length_nil]; omega⟩ ⟨rfl, rfl, rfl, rfl, rfl, rfl, rfl, rfl, rfl, trivial⟩
    · have h26b := h26
      try simp only [sxb] at h26
      refine cj_exit (ej_then_exit (ej_then_exit (ej_blk_hit (ej_th (cj_seq ?_)))))
      refine cj_regionG (gj_step (y_move rfl) rfl rfl rfl (gj_step (y_assign rfl) rfl rfl rfl (gj_step (y_assign rfl) rfl rfl rfl (gj_nil ?_))))
      refine ej_th (cj_ret ?_)
      have hkn : k = cs.length := by omega
      have hpo : out = payL cs hv s := by rw [← hso, hkn, List.drop_of_length_le (Nat.le_refl _), payL, List.append_nil]
      subst hpo
      rw [if_pos hfs, if_pos hfs]
      exact ej_ret2 rfl Tryz.results35 rfl rfl (fun w' hp => ⟨Ao, co, rfl, hp.below, hp.res enInt_len (by unfold maxLen; omega)⟩)

theorem k_Pay (cs hv : List Int) (Ac Ah : Option Addr) (cc ch : Nat) (s : Int) (w : World) (hc : Rd w 1 enInt Ac cs) (hh : Rd w 1 enInt Ah hv) : Calls Tryz.prog 10 #[.agg #[.slice Ac cs.length cc, .slice Ah hv.length ch], .int .i64 s] w (fun e w' => ∃ A c, e = .returned (.tuple #[.slice A (PayL cs hv s).length c, .int .i64 (PayE cs hv s)]) ∧ Grow w w' ∧ Res w w' 1 enInt A (PayL cs hv s)) := by
  refine enter_pure (args := [.agg #[.slice Ac cs.length cc, .slice Ah hv.length ch], .int .i64 s]) [sl (fun b => b < w.heap.size) 1 enInt Ac cs, sl (fun b => b < w.heap.size) 1 enInt Ah hv] Tryz.func10 rfl (by rw [Tryz.ntmps10]; simp) (fun g hg => by simp at hg; rcases hg with rfl | rfl; exact ⟨hc, fun _ h => h⟩; exact ⟨hh, fun _ h => h⟩) ?_
  refine cj_seq (cj_region ?_)
  refine oj_box rfl rfl rfl (fun b2 => ?_)
  refine oj_step (y_assign rfl) rfl rfl rfl ?_
  refine oj_step (y_assign rfl) rfl rfl rfl ?_
  refine oj_nil ?_
  refine ej_th (cj_seq (cj_seq ?_))
  refine cj_regionG ?_
  refine gj_step (y_loadN Tryz.isAgg25 Tryz.sizeOf25 rfl) rfl rfl rfl (?_)
  refine gj_step (y_call Tryz.call33 rfl (fun w hp => k_Check cs hv Ac Ah cc ch w hp.rd hp.rd)) rfl rfl rfl ?_
  refine gj_step (y_assign rfl) rfl rfl rfl (?_)
  refine gj_nil ?_
  refine ej_th (cj_seq ?_)
  refine cj_regionG (gj_step (y_move rfl) rfl rfl rfl (gj_step (y_neq rfl rfl) rfl rfl rfl (gj_nil ?_)))
  refine ej_th ?_
  refine cj_cond rfl (fun h10 => ?_) (fun h10 => ?_)
  · have h10b := h10
    try simp only [sxb] at h10
    have hdb : drwB cs hv = false := by cases e : drwB cs hv with
      | false => rfl
      | true => rw [CheE, e] at h10; exact absurd rfl h10
    refine cj_seq ?_
    refine cj_regionG (gj_step (y_move rfl) rfl rfl rfl (gj_step (y_assign rfl) rfl rfl rfl (gj_step (y_assign rfl) rfl rfl rfl (gj_nil ?_))))
    refine ej_th (cj_ret (ej_then_ret ?_))
    rw [show PayL cs hv s = [] by rw [PayL, PayE, hdb]; rfl, show PayE cs hv s = 80 by rw [PayE, hdb]; rfl, CheE, hdb]
    exact ej_ret2 rfl Tryz.results10 rfl rfl (fun w' hp => ⟨none, 0, rfl, hp.below, Res.nil⟩)
  · have h10b := h10
    try simp only [sxb] at h10
    have hdb : drwB cs hv = true := by cases e : drwB cs hv with
      | true => rfl
      | false => rw [CheE, e] at h10; exact absurd h10 (by decide)
    refine cj_skip (ej_th (cj_seq (cj_seq ?_)))
    refine cj_regionG ?_
    refine gj_step (y_move rfl) rfl rfl rfl (?_)
    refine gj_step (y_call Tryz.call34 rfl (fun w hp => k_within _ _ _ w)) rfl rfl rfl ?_
    refine gj_step (y_not rfl) rfl rfl rfl (?_)
    refine gj_nil ?_
    refine ej_th ?_
    refine cj_cond rfl (fun h14 => ?_) (fun h14 => ?_)
    · have h14b := h14
      try simp only [sxb] at h14
      refine cj_seq ?_
      refine cj_regionG (gj_step (y_assign rfl) rfl rfl rfl (gj_step (y_assign rfl) rfl rfl rfl (gj_nil ?_)))
      refine ej_th (cj_ret (ej_then_ret ?_))
      rw [show PayL cs hv s = [] by rw [PayL, PayE, hdb, not_t h14b]; rfl, show PayE cs hv s = 7 by rw [PayE, hdb, not_t h14b]; rfl]
      exact ej_ret2 rfl Tryz.results10 rfl rfl (fun w' hp => ⟨none, 0, rfl, hp.below, Res.nil⟩)
    · have h14b := h14
      try simp only [sxb] at h14
      have hsb := btw_t (not_f h14b)
      refine cj_skip (ej_th (cj_seq (cj_region ?_)))
      refine oj_step (y_fa0 fa25_0 rfl) rfl rfl rfl ?_
      refine oj_step (y_load1 Tryz.isAgg23 rfl rfl) rfl rfl rfl ?_
      refine oj_step (y_fa fa25_1 rfl) rfl rfl rfl ?_
      refine oj_step (y_load1 Tryz.isAgg23 rfl rfl) rfl rfl rfl ?_
      refine oj_step (y_move rfl) rfl rfl rfl ?_
      refine oj_callS (fun A c => .tuple #[.slice A (if few cs hv s < 1073741824 then payL cs hv s else []).length c, .int .i64 (if few cs hv s < 1073741824 then 0 else 4)]) 1 enInt (if few cs hv s < 1073741824 then payL cs hv s else []) Tryz.call35 rfl (fun w hp => k_pay cs hv Ac Ah cc ch s w hp.rd hp.rd (drw_ok hdb) hsb) rfl (fun A20 c20 fp20 hfp20 => ?_)
      refine oj_step (y_extract rfl rfl) rfl rfl rfl ?_
      refine oj_step (y_extract rfl rfl) rfl rfl rfl ?_
      refine oj_step (y_assign rfl) rfl rfl rfl ?_
      refine oj_step (y_assign rfl) rfl rfl rfl ?_
      refine oj_nil ?_
      refine ej_th (cj_ret ?_)
      have hE : PayE cs hv s = if few cs hv s < 1073741824 then 0 else 4 := by rw [PayE, hdb, not_f h14b]; rfl
      have hL : PayL cs hv s = if few cs hv s < 1073741824 then payL cs hv s else [] := by rw [PayL, hE]; split <;> rfl
      rw [hL, hE]
      exact ej_ret2 rfl Tryz.results10 rfl rfl (fun w' hp => ⟨A20, c20, rfl, hp.below, hp.resS hfp20⟩)

end Go.Proofs.YtppfniekcgnmjaaGreat.Ti
namespace Go.Proofs.YtppfniekcgnmjaaGreat.To
open Go.Sx Go.RowKit
set_option maxRecDepth 20000
theorem eq69 (a0 b0 : Int) (a1 b1 : Int) (x y : Operand) (w : World) : (do eqGuard .eql 69 x y (.agg #[.int .i64 a0, .int .i64 a1]) (.agg #[.int .i64 b0, .int .i64 b1]); binOp .eql 69 (.agg #[.int .i64 a0, .int .i64 a1]) (.agg #[.int .i64 b0, .int .i64 b1]) : Sem Value).run Tryz.prog w = .ok (.bool ((a0 == b0) && (a1 == b1))) w := by
  simp [go_sem, Tryz.eqGuardType69, Tryz.stoodInHeld69, Tryz.underlying69, Tryz.underlying3]
  try ((repeat' split) <;> simp_all)
theorem st105 : StructIs Tryz.prog 105 [(0, 1), (1, 1)] [.int .i64 0, .int .i64 0] := ⟨⟨_, Tryz.underlying105, fun w => by simp [Tryz.sizeOf3], Tryz.zeroValue105⟩⟩
theorem st117 : StructIs Tryz.prog 117 [(0, 1), (1, 1)] [.int .i64 0, .int .i64 0] := ⟨⟨_, Tryz.underlying117, fun w => by simp [Tryz.sizeOf3], Tryz.zeroValue117⟩⟩
theorem st181 : StructIs Tryz.prog 181 [(0, 1), (1, 1), (2, 1)] [.int .i64 0, .int .i64 0, .int .i64 0] := ⟨⟨_, Tryz.underlying181, fun w => by simp [Tryz.sizeOf3], Tryz.zeroValue181⟩⟩
theorem st62 : StructIs Tryz.prog 62 [(0, 1), (1, 1), (2, 1)] [.int .i64 0, .int .i64 0, .slice none 0 0] := ⟨⟨_, Tryz.underlying62, fun w => by simp [Tryz.sizeOf3, Tryz.sizeOf60], Tryz.zeroValue62⟩⟩
theorem st67 : StructIs Tryz.prog 67 [(0, 1), (1, 1), (2, 1)] [.int .i64 0, .int .i64 0, .int .i64 0] := ⟨⟨_, Tryz.underlying67, fun w => by simp [Tryz.sizeOf3], Tryz.zeroValue67⟩⟩
theorem st69 : StructIs Tryz.prog 69 [(0, 1), (1, 1)] [.int .i64 0, .int .i64 0] := ⟨⟨_, Tryz.underlying69, fun w => by simp [Tryz.sizeOf3], Tryz.zeroValue69⟩⟩
end Go.Proofs.YtppfniekcgnmjaaGreat.To
namespace Go.Proofs.YtppfniekcgnmjaaGreat.To
open Go.Sx Go.RowKit
set_option maxRecDepth 20000
theorem st130 : StructIs Tryz.prog 130 [(0, 1), (1, 1)] [.slice none 0 0, .slice none 0 0] := ⟨⟨_, Tryz.underlying130, fun w => by simp [Tryz.sizeOf128, Tryz.sizeOf23], Tryz.zeroValue130⟩⟩
theorem st190 : StructIs Tryz.prog 190 [(0, 1), (1, 1), (2, 1)] [.int .i64 0, .int .i64 0, .int .i64 0] := ⟨⟨_, Tryz.underlying190, fun w => by simp [Tryz.sizeOf3], Tryz.zeroValue190⟩⟩
theorem st193 : StructIs Tryz.prog 193 [(0, 1), (1, 1), (2, 1), (3, 1)] [.int .i64 0, .int .i64 0, .int .i64 0, .slice none 0 0] := ⟨⟨_, Tryz.underlying193, fun w => by simp [Tryz.sizeOf23, Tryz.sizeOf3], Tryz.zeroValue193⟩⟩
theorem st196 : StructIs Tryz.prog 196 [(0, 1), (1, 1), (2, 1)] [.slice none 0 0, .slice none 0 0, .slice none 0 0] := ⟨⟨_, Tryz.underlying196, fun w => by simp [Tryz.sizeOf191, Tryz.sizeOf194, Tryz.sizeOf23], Tryz.zeroValue196⟩⟩
theorem st25 : StructIs Tryz.prog 25 [(0, 1), (1, 1)] [.slice none 0 0, .slice none 0 0] := ⟨⟨_, Tryz.underlying25, fun w => by simp [Tryz.sizeOf23], Tryz.zeroValue25⟩⟩
theorem st91 : StructIs Tryz.prog 91 [(0, 1), (1, 1)] [.int .i64 0, .int .i64 0] := ⟨⟨_, Tryz.underlying91, fun w => by simp [Tryz.sizeOf3], Tryz.zeroValue91⟩⟩
end Go.Proofs.YtppfniekcgnmjaaGreat.To
namespace Go.Proofs.YtppfniekcgnmjaaGreat.To
open Go.Sx Go.RowKit Um
set_option maxRecDepth 20000
abbrev at4 (b : Nat) : Option Addr := some ⟨b, 0, none⟩
theorem c_cod1 : Tk.CodS 1 = ⟨#[48, 48, 48, 48, 48, 48, 48, 49, 57, 53]⟩ := by kernel_rfl
theorem c_ent (p q r s : Nat) : Va.EntV (Va.StrV.mk (at4 p) 2 ([⟨0, 0, 0⟩, ⟨1, 0, 0⟩] : List Vm.RoomV) (at4 q) 1 [Va.GateV.mk 0 1 2 (at4 r) 1 [1]] (at4 s) 2 [1, 0]) 3 = 3 := by kernel_rfl
theorem c_entE (p q r s : Nat) : Va.askE (Va.StrV.mk (at4 p) 2 ([⟨0, 0, 0⟩, ⟨1, 0, 0⟩] : List Vm.RoomV) (at4 q) 1 [Va.GateV.mk 0 1 2 (at4 r) 1 [1]] (at4 s) 2 [1, 0]) 3 = 0 := by kernel_rfl
theorem c_agr : Pl.AgrB [⟨2, 1⟩] [100] [104] = true := by kernel_rfl
theorem c_agrE : Pl.AgrE [⟨2, 1⟩] [100] [104] = 0 := by kernel_rfl
theorem c_most4 : Le.MostN 40 300 5000 400 900 = 300 := by decide
theorem c_mostE4 : Le.MostE 40 300 5000 400 900 = 0 := by decide
theorem c_sell6 : Au.SellV 10 0 [⟨0, 5⟩] [⟨4, 0, 17⟩, ⟨3, 0, 12⟩] = ⟨4, 15⟩ := by kernel_rfl
theorem c_sellE6 : Au.SellE 10 0 [⟨0, 5⟩] [⟨4, 0, 17⟩, ⟨3, 0, 12⟩] = 0 := by kernel_rfl
theorem c_prc (p q r : Nat) : (Au.CloA [0] [Au.ListV.mk (at4 p) 1 [4], Au.ListV.mk (at4 q) 1 [9], Au.ListV.mk (at4 r) 1 [6]]).2 = [6] := by kernel_rfl
theorem c_prcE (p q r : Nat) : Au.cloE [0] [Au.ListV.mk (at4 p) 1 [4], Au.ListV.mk (at4 q) 1 [9], Au.ListV.mk (at4 r) 1 [6]] = 0 := by kernel_rfl
theorem c_pay : Ti.PayL [20, 10, 7, 1] [1, 2, 3, 1] 24 = [0, 1, 2, 0] := by kernel_rfl
theorem c_payE : Ti.PayE [20, 10, 7, 1] [1, 2, 3, 1] 24 = 0 := by kernel_rfl
theorem c_shr8 : Pu.ShrL [6, 3, 1] 5 = [4, 1, 0] := by kernel_rfl
theorem c_shrE8 : Pu.ShrE [6, 3, 1] 5 = 0 := by kernel_rfl

theorem k_returned04  (w : World)  : Calls Tryz.prog 64 #[] w (fun e w' => e = .returned (.bool true) ∧ Grow w w') := by
  refine enter_pure (args := []) [] Tryz.func64 rfl (by rw [Tryz.ntmps64]; simp) (by simp) ?_
  refine cj_seq ?_
  refine cj_regionG (gj_step (y_assign rfl) rfl rfl rfl (gj_nil ?_))
  refine ej_th (cj_seq ?_)
  refine cj_regionG ?_
  refine gj_step (y_call Tryz.call88 rfl (fun w hp => by
    have h := Tk.k_Code 1 w
    rw [c_cod1] at h
    exact h)) rfl rfl rfl ?_
  refine gj_step (y_move rfl) rfl rfl rfl (gj_step (y_extract rfl rfl) rfl rfl rfl (gj_step (y_extract rfl rfl) rfl rfl rfl (gj_step (y_assign rfl) rfl rfl rfl (gj_step (y_assign rfl) rfl rfl rfl (?_)))))
  refine gj_nil ?_
  refine ej_th (cj_seq (cj_region ?_))
  refine oj_step (y_build st190 rfl rfl) rfl rfl rfl ?_
  refine oj_step (y_build (cs := [.int .i64 1, .int .i64 0, .int .i64 0]) st190 rfl (by kernel_rfl)) rfl rfl rfl ?_
  refine oj_buildSlice (cs := [.int .i64 0, .int .i64 0, .int .i64 0, .int .i64 1, .int .i64 0, .int .i64 0]) [.int .i64 0, .int .i64 0, .int .i64 0, .int .i64 0, .int .i64 0, .int .i64 0] Tryz.underlying191 Tryz.sizeOf190 Tryz.zeroValue190 rfl rfl (by kernel_rfl) (by kernel_rfl) rfl (fun b16 => ?_)
  refine oj_buildSlice (cs := [.int .i64 1]) [.int .i64 0] Tryz.underlying23 Tryz.sizeOf3 Tryz.zeroValue3 rfl rfl (by kernel_rfl) (by kernel_rfl) rfl (fun b17 => ?_)
  refine oj_step (y_build (cs := [.int .i64 0, .int .i64 1, .int .i64 2, .slice (some ⟨b17, 0, none⟩) 1 1]) st193 rfl (by kernel_rfl)) rfl rfl rfl ?_
  refine oj_buildSlice (cs := [.int .i64 0, .int .i64 1, .int .i64 2, .slice (some ⟨b17, 0, none⟩) 1 1]) [.int .i64 0, .int .i64 0, .int .i64 0, .slice none 0 0] Tryz.underlying194 Tryz.sizeOf193 Tryz.zeroValue193 rfl rfl (by kernel_rfl) (by kernel_rfl) rfl (fun b19 => ?_)
  refine oj_buildSlice (cs := [.int .i64 1, .int .i64 0]) [.int .i64 0, .int .i64 0] Tryz.underlying23 Tryz.sizeOf3 Tryz.zeroValue3 rfl rfl (by kernel_rfl) (by kernel_rfl) rfl (fun b20 => ?_)
  refine oj_step (y_build (cs := [.slice (some ⟨b16, 0, none⟩) 2 2, .slice (some ⟨b19, 0, none⟩) 1 1, .slice (some ⟨b20, 0, none⟩) 2 2]) st196 rfl (by kernel_rfl)) rfl rfl rfl ?_
  refine oj_step (y_call Tryz.call94 rfl (fun w hp => by
    have h := Va.k_Enter (Va.StrV.mk (at4 b16) 2 ([⟨0, 0, 0⟩, ⟨1, 0, 0⟩] : List Vm.RoomV) (at4 b19) 1 [Va.GateV.mk 0 1 2 (at4 b17) 1 [1]] (at4 b20) 2 [1, 0]) 3 w ⟨(hp.rdLit (b := b16) (sz := 3) (enc := Va.encRo) ([⟨0, 0, 0⟩, ⟨1, 0, 0⟩] : List Vm.RoomV) (fun _ => rfl) rfl (by unfold maxLen; simp)), (hp.rdLit (b := b19) (sz := 4) (enc := Va.encGa) [Va.GateV.mk 0 1 2 (at4 b17) 1 [1]] (fun _ => rfl) rfl (by unfold maxLen; simp)), (hp.rdLit (b := b20) (sz := 1) (enc := enInt) [1, 0] (fun _ => rfl) rfl (by unfold maxLen; simp)), fun g hg => by
      rw [List.mem_singleton.1 hg]
      exact (hp.rdLit (b := b17) (sz := 1) (enc := enInt) [1] (fun _ => rfl) rfl (by unfold maxLen; simp))⟩
    rw [c_ent, c_entE] at h
    exact h)) rfl rfl rfl ?_
  refine oj_step (y_move rfl) rfl rfl rfl ?_
  refine oj_step (y_extract rfl rfl) rfl rfl rfl ?_
  refine oj_step (y_extract rfl rfl) rfl rfl rfl ?_
  refine oj_step (y_assign rfl) rfl rfl rfl ?_
  refine oj_step (y_assign rfl) rfl rfl rfl ?_
  refine oj_nil ?_
  refine ej_th (cj_seq (cj_region ?_))
  refine oj_step (y_build (cs := [.int .i64 2, .int .i64 1]) st91 rfl (by kernel_rfl)) rfl rfl rfl ?_
  refine oj_buildSlice (cs := [.int .i64 2, .int .i64 1]) [.int .i64 0, .int .i64 0] Tryz.underlying39 Tryz.sizeOf91 Tryz.zeroValue91 rfl rfl (by kernel_rfl) (by kernel_rfl) rfl (fun b27 => ?_)
  refine oj_buildSlice (cs := [.int .i64 100]) [.int .i64 0] Tryz.underlying23 Tryz.sizeOf3 Tryz.zeroValue3 rfl rfl (by kernel_rfl) (by kernel_rfl) rfl (fun b28 => ?_)
  refine oj_buildSlice (cs := [.int .i64 104]) [.int .i64 0] Tryz.underlying23 Tryz.sizeOf3 Tryz.zeroValue3 rfl rfl (by kernel_rfl) (by kernel_rfl) rfl (fun b29 => ?_)
  refine oj_step (y_call Tryz.call18 rfl (fun w hp => by
    have h := Pl.k_Agree [⟨2, 1⟩] (some ⟨b27, 0, none⟩) 1 [100] [104] (some ⟨b28, 0, none⟩) (some ⟨b29, 0, none⟩) 1 1 w (hp.rdLit (b := b27) (sz := 2) (enc := Pl.encMe) [⟨2, 1⟩] (fun _ => rfl) rfl (by unfold maxLen; simp)) (hp.rdLit (b := b28) (sz := 1) (enc := enInt) [100] (fun _ => rfl) rfl (by unfold maxLen; simp)) (hp.rdLit (b := b29) (sz := 1) (enc := enInt) [104] (fun _ => rfl) rfl (by unfold maxLen; simp))
    rw [c_agr, c_agrE] at h
    exact h)) rfl rfl rfl ?_
  refine oj_step (y_move rfl) rfl rfl rfl ?_
  refine oj_step (y_extract rfl rfl) rfl rfl rfl ?_
  refine oj_step (y_extract rfl rfl) rfl rfl rfl ?_
  refine oj_step (y_assign rfl) rfl rfl rfl ?_
  refine oj_step (y_assign rfl) rfl rfl rfl ?_
  refine oj_nil ?_
  refine ej_th (cj_seq ?_)
  refine cj_regionG ?_
  refine gj_step (y_build (cs := [.int .i64 40, .int .i64 300, .int .i64 5000]) st181 rfl (by kernel_rfl)) rfl rfl rfl (gj_step (y_build (cs := [.int .i64 400, .int .i64 900]) st105 rfl (by kernel_rfl)) rfl rfl rfl (?_))
  refine gj_step (y_call Tryz.call89 rfl (fun w hp => by
    have h := Le.k_Most 40 300 5000 400 900 w
    rw [c_most4, c_mostE4] at h
    exact h)) rfl rfl rfl ?_
  refine gj_step (y_move rfl) rfl rfl rfl (gj_step (y_extract rfl rfl) rfl rfl rfl (gj_step (y_extract rfl rfl) rfl rfl rfl (gj_step (y_assign rfl) rfl rfl rfl (gj_step (y_assign rfl) rfl rfl rfl (?_)))))
  refine gj_nil ?_
  refine ej_th (cj_seq (cj_region ?_))
  refine oj_step (y_move rfl) rfl rfl rfl ?_
  refine oj_step (y_eql rfl rfl) rfl rfl rfl ?_
  refine oj_step (y_move rfl) rfl rfl rfl ?_
  refine oj_yes rfl rfl rfl ?_
  refine oj_step (y_move rfl) rfl rfl rfl ?_
  refine oj_yes rfl rfl rfl ?_
  refine oj_step (y_eql rfl rfl) rfl rfl rfl ?_
  refine oj_step (y_pick rfl rfl rfl) rfl rfl rfl ?_
  refine oj_step (y_move rfl) rfl rfl rfl ?_
  refine oj_yes rfl rfl rfl ?_
  refine oj_step (y_move rfl) rfl rfl rfl ?_
  refine oj_yes rfl rfl rfl ?_
  refine oj_step (y_eql rfl rfl) rfl rfl rfl ?_
  refine oj_step (y_pick rfl rfl rfl) rfl rfl rfl ?_
  refine oj_step (y_move rfl) rfl rfl rfl ?_
  refine oj_yes rfl rfl rfl ?_
  refine oj_step (y_move rfl) rfl rfl rfl ?_
  refine oj_yes rfl rfl rfl ?_
  refine oj_step (y_eql rfl rfl) rfl rfl rfl ?_
  refine oj_step (y_pick rfl rfl rfl) rfl rfl rfl ?_
  refine oj_step (y_move rfl) rfl rfl rfl ?_
  refine oj_yes rfl rfl rfl ?_
  refine oj_step (y_move rfl) rfl rfl rfl ?_
  refine oj_yes rfl rfl rfl ?_
  refine oj_step (y_eqlS rfl rfl) rfl rfl rfl ?_
  refine oj_step (y_pick rfl rfl rfl) rfl rfl rfl ?_
  refine oj_step (y_move rfl) rfl rfl rfl ?_
  refine oj_yes rfl rfl rfl ?_
  refine oj_step (y_move rfl) rfl rfl rfl ?_
  refine oj_yes rfl rfl rfl ?_
  refine oj_step (y_eql rfl rfl) rfl rfl rfl ?_
  refine oj_step (y_pick rfl rfl rfl) rfl rfl rfl ?_
  refine oj_step (y_move rfl) rfl rfl rfl ?_
  refine oj_yes rfl rfl rfl ?_
  refine oj_step (y_move rfl) rfl rfl rfl ?_
  refine oj_step (y_pick rfl rfl rfl) rfl rfl rfl ?_
  refine oj_step (y_move rfl) rfl rfl rfl ?_
  refine oj_yes rfl rfl rfl ?_
  refine oj_step (y_move rfl) rfl rfl rfl ?_
  refine oj_yes rfl rfl rfl ?_
  refine oj_step (y_eql rfl rfl) rfl rfl rfl ?_
  refine oj_step (y_pick rfl rfl rfl) rfl rfl rfl ?_
  refine oj_step (y_assign rfl) rfl rfl rfl ?_
  refine oj_nil ?_
  refine ej_th (cj_ret ?_)
  exact ej_ret1 rfl Tryz.results64 rfl (fun w' hp => ⟨rfl, hp.below⟩)

theorem k_priced06  (w : World)  : Calls Tryz.prog 32 #[] w (fun e w' => e = .returned (.bool true) ∧ Grow w w') := by
  refine enter_pure (args := []) [] Tryz.func32 rfl (by rw [Tryz.ntmps32]; simp) (by simp) ?_
  refine cj_seq ?_
  refine cj_regionG (gj_step (y_assign rfl) rfl rfl rfl (gj_nil ?_))
  refine ej_th (cj_seq (cj_region ?_))
  refine oj_step (y_build (cs := [.int .i64 0, .int .i64 5]) st117 rfl (by kernel_rfl)) rfl rfl rfl ?_
  refine oj_buildSlice (cs := [.int .i64 0, .int .i64 5]) [.int .i64 0, .int .i64 0] Tryz.underlying60 Tryz.sizeOf117 Tryz.zeroValue117 rfl rfl (by kernel_rfl) (by kernel_rfl) rfl (fun b7 => ?_)
  refine oj_step (y_build (cs := [.int .i64 10, .int .i64 0, .slice (some ⟨b7, 0, none⟩) 1 1]) st62 rfl (by kernel_rfl)) rfl rfl rfl ?_
  refine oj_step (y_build (cs := [.int .i64 4, .int .i64 0, .int .i64 17]) st67 rfl (by kernel_rfl)) rfl rfl rfl ?_
  refine oj_step (y_build (cs := [.int .i64 3, .int .i64 0, .int .i64 12]) st67 rfl (by kernel_rfl)) rfl rfl rfl ?_
  refine oj_buildSlice (cs := [.int .i64 4, .int .i64 0, .int .i64 17, .int .i64 3, .int .i64 0, .int .i64 12]) [.int .i64 0, .int .i64 0, .int .i64 0, .int .i64 0, .int .i64 0, .int .i64 0] Tryz.underlying63 Tryz.sizeOf67 Tryz.zeroValue67 rfl rfl (by kernel_rfl) (by kernel_rfl) rfl (fun b11 => ?_)
  refine oj_step (y_call Tryz.call19 rfl (fun w hp => by
    have h := Au.k_Sell 10 0 [⟨0, 5⟩] (some ⟨b7, 0, none⟩) 1 [⟨4, 0, 17⟩, ⟨3, 0, 12⟩] (some ⟨b11, 0, none⟩) 2 w (hp.rdLit (b := b7) (sz := 2) (enc := Au.encRi) [⟨0, 5⟩] (fun _ => rfl) rfl (by unfold maxLen; simp)) (hp.rdLit (b := b11) (sz := 3) (enc := Au.encBi) [⟨4, 0, 17⟩, ⟨3, 0, 12⟩] (fun _ => rfl) rfl (by unfold maxLen; simp))
    rw [c_sell6, c_sellE6] at h
    exact h)) rfl rfl rfl ?_
  refine oj_step (y_move rfl) rfl rfl rfl ?_
  refine oj_step (y_extract rfl rfl) rfl rfl rfl ?_
  refine oj_step (y_extract rfl rfl) rfl rfl rfl ?_
  refine oj_alloc Tryz.zeroValue69 rfl rfl (fun b1 => ?_)
  refine oj_store rfl rfl rfl rfl Tryz.sizeOf69 rfl ?_
  refine oj_step (y_assign rfl) rfl rfl rfl ?_
  refine oj_nil ?_
  refine ej_th (cj_seq (cj_region ?_))
  refine oj_buildSlice (cs := [.int .i64 0]) [.int .i64 0] Tryz.underlying23 Tryz.sizeOf3 Tryz.zeroValue3 rfl rfl (by kernel_rfl) (by kernel_rfl) rfl (fun b16 => ?_)
  refine oj_buildSlice (cs := [.int .i64 4]) [.int .i64 0] Tryz.underlying23 Tryz.sizeOf3 Tryz.zeroValue3 rfl rfl (by kernel_rfl) (by kernel_rfl) rfl (fun b17 => ?_)
  refine oj_buildSlice (cs := [.int .i64 9]) [.int .i64 0] Tryz.underlying23 Tryz.sizeOf3 Tryz.zeroValue3 rfl rfl (by kernel_rfl) (by kernel_rfl) rfl (fun b18 => ?_)
  refine oj_buildSlice (cs := [.int .i64 6]) [.int .i64 0] Tryz.underlying23 Tryz.sizeOf3 Tryz.zeroValue3 rfl rfl (by kernel_rfl) (by kernel_rfl) rfl (fun b19 => ?_)
  refine oj_buildSlice (cs := [.slice (some ⟨b17, 0, none⟩) 1 1, .slice (some ⟨b18, 0, none⟩) 1 1, .slice (some ⟨b19, 0, none⟩) 1 1]) [.slice none 0 0, .slice none 0 0, .slice none 0 0] Tryz.underlying128 Tryz.sizeOf23 Tryz.zeroValue23 rfl rfl (by kernel_rfl) (by kernel_rfl) rfl (fun b20 => ?_)
  refine oj_step (y_build (cs := [.slice (some ⟨b16, 0, none⟩) 1 1, .slice (some ⟨b20, 0, none⟩) 3 3]) st130 rfl (by kernel_rfl)) rfl rfl rfl ?_
  refine oj_callS (fun A c => .tuple #[.slice A ([6] : List Int).length c, .int .i64 0]) 1 enInt ([6] : List Int) Tryz.call63 rfl (fun w hp => by
    have h := Au.k_Prices [0] (some ⟨b16, 0, none⟩) 1 [Au.ListV.mk (at4 b17) 1 [4], Au.ListV.mk (at4 b18) 1 [9], Au.ListV.mk (at4 b19) 1 [6]] (some ⟨b20, 0, none⟩) 3 w (hp.rdLit (b := b16) (sz := 1) (enc := enInt) [0] (fun _ => rfl) rfl (by unfold maxLen; simp)) (hp.rdLit (b := b20) (sz := 1) (enc := Au.encLs) [Au.ListV.mk (at4 b17) 1 [4], Au.ListV.mk (at4 b18) 1 [9], Au.ListV.mk (at4 b19) 1 [6]] (fun _ => rfl) rfl (by unfold maxLen; simp)) (fun r hr => by
      simp only [List.mem_cons, List.mem_nil_iff, or_false] at hr
      rcases hr with rfl | rfl | rfl
      · exact (hp.rdLit (b := b17) (sz := 1) (enc := enInt) [4] (fun _ => rfl) rfl (by unfold maxLen; simp))
      · exact (hp.rdLit (b := b18) (sz := 1) (enc := enInt) [9] (fun _ => rfl) rfl (by unfold maxLen; simp))
      · exact (hp.rdLit (b := b19) (sz := 1) (enc := enInt) [6] (fun _ => rfl) rfl (by unfold maxLen; simp)))
    rw [c_prc, c_prcE] at h
    exact h) rfl (fun A22 c22 fp22 hfp22 => ?_)
  refine oj_step (y_move rfl) rfl rfl rfl ?_
  refine oj_step (y_extract rfl rfl) rfl rfl rfl ?_
  refine oj_step (y_extract rfl rfl) rfl rfl rfl ?_
  refine oj_step (y_assign rfl) rfl rfl rfl ?_
  refine oj_step (y_assign rfl) rfl rfl rfl ?_
  refine oj_nil ?_
  refine ej_th (cj_seq (cj_region ?_))
  refine oj_step (y_move rfl) rfl rfl rfl ?_
  refine oj_step (y_eql rfl rfl) rfl rfl rfl ?_
  refine oj_step (y_move rfl) rfl rfl rfl ?_
  refine oj_yes rfl rfl rfl ?_
  refine oj_step (y_move rfl) rfl rfl rfl ?_
  refine oj_yes rfl rfl rfl ?_
  refine oj_step (y_eql rfl rfl) rfl rfl rfl ?_
  refine oj_step (y_pick rfl rfl rfl) rfl rfl rfl ?_
  refine oj_step (y_move rfl) rfl rfl rfl ?_
  refine oj_yes rfl rfl rfl ?_
  refine oj_step (y_loadN Tryz.isAgg69 Tryz.sizeOf69 rfl) rfl rfl rfl ?_
  refine oj_yes rfl rfl rfl ?_
  refine oj_step (y_build (cs := [.int .i64 4, .int .i64 15]) st69 rfl (by kernel_rfl)) rfl rfl rfl ?_
  refine oj_yes rfl rfl rfl ?_
  refine oj_step (y_bin rfl rfl (fun x y w => eq69 _ _ _ _ x y w)) rfl rfl rfl ?_
  refine oj_step (y_pick rfl rfl rfl) rfl rfl rfl ?_
  refine oj_step (y_move rfl) rfl rfl rfl ?_
  refine oj_yes rfl rfl rfl ?_
  refine oj_step (y_move rfl) rfl rfl rfl ?_
  refine oj_yes rfl rfl rfl ?_
  refine oj_buildSlice (cs := [.int .i64 6]) [.int .i64 0] Tryz.underlying23 Tryz.sizeOf3 Tryz.zeroValue3 rfl rfl (by kernel_rfl) (by kernel_rfl) rfl (fun b38 => ?_)
  refine oj_yes rfl rfl rfl ?_
  refine oj_step (y_call Tryz.call31 rfl (fun w hp => k_Same [6] [6] A22 (some ⟨b38, 0, none⟩) c22 1 w hp.rd (hp.rdLit (b := b38) (sz := 1) (enc := enInt) [6] (fun _ => rfl) rfl (by unfold maxLen; simp)))) rfl rfl rfl ?_
  refine oj_step (y_pick rfl rfl rfl) rfl rfl rfl ?_
  refine oj_step (y_move rfl) rfl rfl rfl ?_
  refine oj_yes rfl rfl rfl ?_
  refine oj_step (y_call Tryz.call64 rfl (fun w hp => k_returned04 w)) rfl rfl rfl ?_
  refine oj_step (y_pick rfl rfl rfl) rfl rfl rfl ?_
  refine oj_step (y_assign rfl) rfl rfl rfl ?_
  refine oj_nil ?_
  refine ej_th (cj_ret ?_)
  exact ej_ret1 rfl Tryz.results32 rfl (fun w' hp => ⟨rfl, hp.below⟩)

theorem k_paid08  (w : World)  : Calls Tryz.prog 7 #[] w (fun e w' => e = .returned (.bool true) ∧ Grow w w') := by
  refine enter_pure (args := []) [] Tryz.func7 rfl (by rw [Tryz.ntmps7]; simp) (by simp) ?_
  refine cj_seq ?_
  refine cj_regionG (gj_step (y_assign rfl) rfl rfl rfl (gj_nil ?_))
  refine ej_th (cj_seq (cj_region ?_))
  refine oj_buildSlice (cs := [.int .i64 20, .int .i64 10, .int .i64 7, .int .i64 1]) [.int .i64 0, .int .i64 0, .int .i64 0, .int .i64 0] Tryz.underlying23 Tryz.sizeOf3 Tryz.zeroValue3 rfl rfl (by kernel_rfl) (by kernel_rfl) rfl (fun b6 => ?_)
  refine oj_buildSlice (cs := [.int .i64 1, .int .i64 2, .int .i64 3, .int .i64 1]) [.int .i64 0, .int .i64 0, .int .i64 0, .int .i64 0] Tryz.underlying23 Tryz.sizeOf3 Tryz.zeroValue3 rfl rfl (by kernel_rfl) (by kernel_rfl) rfl (fun b7 => ?_)
  refine oj_step (y_build (cs := [.slice (some ⟨b6, 0, none⟩) 4 4, .slice (some ⟨b7, 0, none⟩) 4 4]) st25 rfl (by kernel_rfl)) rfl rfl rfl ?_
  refine oj_callS (fun A c => .tuple #[.slice A ([0, 1, 2, 0] : List Int).length c, .int .i64 0]) 1 enInt ([0, 1, 2, 0] : List Int) Tryz.call10 rfl (fun w hp => by
    have h := Ti.k_Pay [20, 10, 7, 1] [1, 2, 3, 1] (some ⟨b6, 0, none⟩) (some ⟨b7, 0, none⟩) 4 4 24 w (hp.rdLit (b := b6) (sz := 1) (enc := enInt) [20, 10, 7, 1] (fun _ => rfl) rfl (by unfold maxLen; simp)) (hp.rdLit (b := b7) (sz := 1) (enc := enInt) [1, 2, 3, 1] (fun _ => rfl) rfl (by unfold maxLen; simp))
    rw [c_pay, c_payE] at h
    exact h) rfl (fun A9 c9 fp9 hfp9 => ?_)
  refine oj_step (y_move rfl) rfl rfl rfl ?_
  refine oj_step (y_extract rfl rfl) rfl rfl rfl ?_
  refine oj_step (y_extract rfl rfl) rfl rfl rfl ?_
  refine oj_step (y_assign rfl) rfl rfl rfl ?_
  refine oj_step (y_assign rfl) rfl rfl rfl ?_
  refine oj_nil ?_
  refine ej_th (cj_seq (cj_region ?_))
  refine oj_buildSlice (cs := [.int .i64 6, .int .i64 3, .int .i64 1]) [.int .i64 0, .int .i64 0, .int .i64 0] Tryz.underlying23 Tryz.sizeOf3 Tryz.zeroValue3 rfl rfl (by kernel_rfl) (by kernel_rfl) rfl (fun b13 => ?_)
  refine oj_callS (fun A c => .tuple #[.slice A ([4, 1, 0] : List Int).length c, .int .i64 0]) 1 enInt ([4, 1, 0] : List Int) Tryz.call30 rfl (fun w hp => by
    have h := Pu.k_Share [6, 3, 1] (some ⟨b13, 0, none⟩) 3 5 w (hp.rdLit (b := b13) (sz := 1) (enc := enInt) [6, 3, 1] (fun _ => rfl) rfl (by unfold maxLen; simp))
    rw [c_shr8, c_shrE8] at h
    exact h) rfl (fun A14 c14 fp14 hfp14 => ?_)
  refine oj_step (y_move rfl) rfl rfl rfl ?_
  refine oj_step (y_extract rfl rfl) rfl rfl rfl ?_
  refine oj_step (y_extract rfl rfl) rfl rfl rfl ?_
  refine oj_step (y_assign rfl) rfl rfl rfl ?_
  refine oj_step (y_assign rfl) rfl rfl rfl ?_
  refine oj_nil ?_
  refine ej_th (cj_seq (cj_region ?_))
  refine oj_step (y_move rfl) rfl rfl rfl ?_
  refine oj_step (y_eql rfl rfl) rfl rfl rfl ?_
  refine oj_step (y_move rfl) rfl rfl rfl ?_
  refine oj_yes rfl rfl rfl ?_
  refine oj_step (y_move rfl) rfl rfl rfl ?_
  refine oj_yes rfl rfl rfl ?_
  refine oj_step (y_eql rfl rfl) rfl rfl rfl ?_
  refine oj_step (y_pick rfl rfl rfl) rfl rfl rfl ?_
  refine oj_step (y_move rfl) rfl rfl rfl ?_
  refine oj_yes rfl rfl rfl ?_
  refine oj_step (y_move rfl) rfl rfl rfl ?_
  refine oj_yes rfl rfl rfl ?_
  refine oj_buildSlice (cs := [.int .i64 0, .int .i64 1, .int .i64 2, .int .i64 0]) [.int .i64 0, .int .i64 0, .int .i64 0, .int .i64 0] Tryz.underlying23 Tryz.sizeOf3 Tryz.zeroValue3 rfl rfl (by kernel_rfl) (by kernel_rfl) rfl (fun b25 => ?_)
  refine oj_yes rfl rfl rfl ?_
  refine oj_step (y_call Tryz.call31 rfl (fun w hp => k_Same [0, 1, 2, 0] [0, 1, 2, 0] A9 (some ⟨b25, 0, none⟩) c9 4 w hp.rd (hp.rdLit (b := b25) (sz := 1) (enc := enInt) [0, 1, 2, 0] (fun _ => rfl) rfl (by unfold maxLen; simp)))) rfl rfl rfl ?_
  refine oj_step (y_pick rfl rfl rfl) rfl rfl rfl ?_
  refine oj_step (y_move rfl) rfl rfl rfl ?_
  refine oj_yes rfl rfl rfl ?_
  refine oj_step (y_move rfl) rfl rfl rfl ?_
  refine oj_yes rfl rfl rfl ?_
  refine oj_buildSlice (cs := [.int .i64 4, .int .i64 1, .int .i64 0]) [.int .i64 0, .int .i64 0, .int .i64 0] Tryz.underlying23 Tryz.sizeOf3 Tryz.zeroValue3 rfl rfl (by kernel_rfl) (by kernel_rfl) rfl (fun b30 => ?_)
  refine oj_yes rfl rfl rfl ?_
  refine oj_step (y_call Tryz.call31 rfl (fun w hp => k_Same [4, 1, 0] [4, 1, 0] A14 (some ⟨b30, 0, none⟩) c14 3 w hp.rd (hp.rdLit (b := b30) (sz := 1) (enc := enInt) [4, 1, 0] (fun _ => rfl) rfl (by unfold maxLen; simp)))) rfl rfl rfl ?_
  refine oj_step (y_pick rfl rfl rfl) rfl rfl rfl ?_
  refine oj_step (y_move rfl) rfl rfl rfl ?_
  refine oj_yes rfl rfl rfl ?_
  refine oj_step (y_call Tryz.call32 rfl (fun w hp => k_priced06 w)) rfl rfl rfl ?_
  refine oj_step (y_pick rfl rfl rfl) rfl rfl rfl ?_
  refine oj_step (y_assign rfl) rfl rfl rfl ?_
  refine oj_nil ?_
  refine ej_th (cj_ret ?_)
  exact ej_ret1 rfl Tryz.results7 rfl (fun w' hp => ⟨rfl, hp.below⟩)

end Go.Proofs.YtppfniekcgnmjaaGreat.To
namespace Go.Proofs.YtppfniekcgnmjaaGreat.To
open Go Go.Sx Go.RowKit
section
open Am
end
section
open Um
theorem porE_ok {isW : ByteArray → Bool} {a : Int} {ps : List Pu.PartV} (h : Pu.porE isW a ps = 0) : Pu.weiB (Pu.valsL ps) = true ∧ ∀ p ∈ ps, Pu.duesB p.dues = true := by
  unfold Pu.porE at h
  split at h
  · cases h
  split at h
  · cases h
  split at h
  · cases h
  split at h
  · cases h
  split at h
  · cases h
  rename_i h1 h2
  exact ⟨by simpa using h1, fun p hp => by simp at h2; exact h2 p hp⟩
theorem gD0 {l : List Int} {i : Nat} {x : Int} (h : l[i]? = some x) : l.getD i 0 = x := by rw [List.getD_eq_getElem?_getD, h]; rfl
theorem por_len {isW : ByteArray → Bool} {a : Int} {ps : List Pu.PartV} (ha : 0 ≤ a) : (Pu.porL isW a ps).length = if Pu.porE isW a ps = 0 then ps.length else 0 := by
  unfold Pu.porL
  split
  · rename_i h
    obtain ⟨h1, _⟩ := porE_ok h
    have h2 := Pu.wei_t h1
    rw [Pu.portsL, List.length_zipWith, share_len (fun x hx => (h2.2.2.1 x hx).1) ha h2.2.2.2.1, Pu.valsL, List.length_map]; omega
  · rfl
end
end Go.Proofs.YtppfniekcgnmjaaGreat.To
namespace Go.Proofs.YtppfniekcgnmjaaGreat.To
open Go Go.Sx Go.RowKit
section
open Um
theorem zip_price : ∀ (ps : List Pu.PartV) (ns : List Int), ps.length = ns.length → (List.zipWith Pu.por1 ps ns).map (·.price) = ns
  | [], [], _ => rfl
  | _ :: ps, n :: ns, h => by rw [List.zipWith_cons_cons, List.map_cons, zip_price ps ns (by simpa using h)]; rfl
theorem porE_bd {isW : ByteArray → Bool} {a : Int} {ps : List Pu.PartV} (h : Pu.porE isW a ps = 0) : (0 ≤ a ∧ a ≤ 67108864) ∧ 1 ≤ ps.length ∧ ps.length ≤ 8 := by
  unfold Pu.porE at h
  split at h
  · cases h
  split at h
  · cases h
  rename_i h1 h2
  have h1 := btw_t (not_f (Bool.eq_false_iff.2 h1))
  have h2 := btw_t (not_f (Bool.eq_false_iff.2 h2))
  exact ⟨h1, by omega⟩
/-- portions add up -/
theorem por_fair {isW : ByteArray → Bool} {a : Int} {ps : List Pu.PartV} (h : Pu.porE isW a ps = 0) :
    (Pu.porL isW a ps).length = ps.length ∧ sumI ((Pu.porL isW a ps).map (·.price)) = a ∧
    ∀ x ∈ Pu.porL isW a ps, 0 ≤ x.price ∧ 0 ≤ x.left ∧ (∀ v ∈ x.paid, 0 ≤ v) ∧ sumI x.paid + x.left = x.price := by
  obtain ⟨⟨ha, _⟩, _⟩ := porE_bd h
  obtain ⟨h1, hd⟩ := porE_ok h
  have h2 := Pu.wei_t h1
  have hnn : ∀ x ∈ Pu.valsL ps, 0 ≤ x := fun x hx => (h2.2.2.1 x hx).1
  have hlen : ps.length = (shareL (Pu.valsL ps) a).length := by rw [share_len hnn ha h2.2.2.2.1, Pu.valsL, List.length_map]
  have e1 : Pu.porL isW a ps = List.zipWith Pu.por1 ps (shareL (Pu.valsL ps) a) := if_pos h
  refine ⟨by rw [por_len ha, if_pos h], by rw [e1, zip_price _ _ hlen]; exact share_sum hnn ha h2.2.2.2.1, fun x hx => ?_⟩
  obtain ⟨i, hi⟩ := List.mem_iff_getElem?.1 hx
  rw [e1, List.getElem?_zipWith] at hi
  cases hp : ps[i]? with
  | none => rw [hp] at hi; simp at hi
  | some p =>
    cases hm : (shareL (Pu.valsL ps) a)[i]? with
    | none => rw [hp, hm] at hi; simp at hi
    | some m =>
      rw [hp, hm] at hi
      simp only [Option.some.injEq] at hi
      subst hi
      have hm0 := share_nn hnn ha h2.2.2.2.1 i
      rw [gD0 hm] at hm0
      have hs := spread_inv (Pu.dues_ok (hd p (List.mem_of_getElem? hp))) hm0
      refine ⟨hm0, hs.left, fun v hv => ?_, hs.sum⟩
      obtain ⟨j, hj⟩ := List.mem_iff_getElem?.1 hv
      have := hs.nn j
      rw [gD0 (l := (spreadL p.dues m).1) hj] at this
      exact this
end
end Go.Proofs.YtppfniekcgnmjaaGreat.To
namespace Go.Proofs.YtppfniekcgnmjaaGreat.Pu
open Go.Sx Go.RowKit
set_option maxRecDepth 20000
theorem el23 : ElemIs Tryz.prog 23 3 1 8 := ⟨⟨_, (.int .i64 0), Tryz.underlying23, Tryz.type3, by kernel_rfl, by kernel_rfl, by kernel_rfl, by kernel_rfl, by decide⟩⟩
theorem fa122_0 : FieldIs Tryz.prog 122 0 0 1 false := ⟨⟨_, _, Tryz.underlying122, rfl, rfl, Tryz.sizeOf3, Tryz.isAgg3, by decide⟩⟩
theorem fa122_1 : FieldIs Tryz.prog 122 1 1 1 false := ⟨⟨_, _, Tryz.underlying122, rfl, rfl, Tryz.sizeOf3, Tryz.isAgg3, by decide⟩⟩
end Go.Proofs.YtppfniekcgnmjaaGreat.Pu
namespace Go.Proofs.YtppfniekcgnmjaaGreat.Pu
open Go.Sx Go.RowKit Um
set_option maxRecDepth 20000
theorem k_IndexD (l : List DueV) (A : Option Addr) (c : Nat) (f : Nat) (fi ca : Array Value) (q : DueV → Bool) (w : World) (hl : Rd w 2 encDu A l) (hen : ∀ args w, (callFunc f args).run Tryz.prog w = .ok (.enter f args) w) (hpp : ∀ x ∈ l, ∀ w1, Grow w w1 → Calls Tryz.prog f (fi ++ [.agg #[.int .i64 x.rank, .int .i64 x.amount]].toArray ++ ca) w1 (fun e w2 => e = .returned (.bool (q x)) ∧ Grow w1 w2)) : Calls Tryz.prog 92 #[.slice A l.length c, .func (.func f) fi ca] w (fun e w' => e = .returned (.int .i64 (fidx q l 0)) ∧ Grow w w') := by
  have hlen := hl.len
  refine enter_pure (args := [.slice A l.length c, .func (.func f) fi ca]) [sl (fun b => b < w.heap.size) 2 encDu A l] Tryz.func92 rfl (by rw [Tryz.ntmps92]; simp) (fun g hg => by simp at hg; subst hg; exact ⟨hl, fun _ h => h⟩) ?_
  refine cj_seq ?_
  refine cj_regionG (gj_step (y_assign rfl) rfl rfl rfl (gj_nil ?_))
  refine ej_th (cj_seq (cj_seq ?_))
  refine cj_regionG (gj_step (y_move rfl) rfl rfl rfl (gj_step (y_lenA Tryz.underlying73 rfl) rfl rfl rfl (gj_step (y_move rfl) rfl rfl rfl (gj_nil ?_))))
  refine ej_th (cj_block ?_)
  refine cj_lpic (X := Nat) [(0, _), (1, _), (7, _)] (fun k => k ≤ l.length ∧ fidx q (l.drop k) k = fidx q l 0) (fun k => [(8, .int .i64 (k : Nat))]) (fun k => l.length - k) 0 (⟨Nat.zero_le _, rfl⟩) ⟨rfl, rfl, rfl, rfl, trivial⟩ ?_
  rintro k ⟨hk, hsk⟩
  dsimp only [List.cons_append, List.nil_append]
  refine cj_seq ?_
  refine cj_regionG (gj_step (y_lss rfl rfl) rfl rfl rfl (gj_nil ?_))
  refine ej_th (cj_seq ?_)
  refine cj_cond rfl (fun h9 => ?_) (fun h9 => ?_)
  · have h9b := h9
    try simp only [sxb] at h9
    obtain ⟨x, hx⟩ : ∃ x, l[k]? = some x := ⟨_, List.getElem?_eq_getElem (by omega)⟩
    rw [fidx_drop q l k x hx] at hsk
    refine cj_skip (ej_th (cj_seq (cj_block (cj_seq ?_))))
    refine cj_regionG (gj_step (y_move rfl) rfl rfl rfl (gj_step (y_assign rfl) rfl rfl rfl (gj_nil ?_)))
    refine ej_th (cj_seq ?_)
    refine cj_regionG ?_
    refine gj_step (y_move rfl) rfl rfl rfl (gj_step (y_move rfl) rfl rfl rfl (gj_step (y_move rfl) rfl rfl rfl (gj_step (y_ixR (reads_sl) Tryz.underlying73 Tryz.sizeOf122 rfl rfl (⟨by omega, by omega⟩)) rfl rfl rfl (gj_step (y_ldW (reads_sl) Tryz.isAgg122 Tryz.sizeOf122 rfl (hx) (fun _ => rfl)) rfl rfl rfl (?_)))))
    refine gj_step (y_callV hen rfl rfl (fun w1 hp => hpp x (List.mem_of_getElem? hx) w1 hp.below)) rfl rfl rfl ?_
    refine gj_nil ?_
    refine ej_th ?_
    refine cj_cond rfl (fun h16 => ?_) (fun h16 => ?_)
    · have h16b := h16
      try simp only [sxb] at h16
      refine cj_seq ?_
      refine cj_regionG (gj_step (y_move rfl) rfl rfl rfl (gj_step (y_assign rfl) rfl rfl rfl (gj_nil ?_)))
      refine ej_th (cj_ret (ej_blk_ret (ej_then_ret (ej_then_ret (ej_blk_ret (ej_then_ret ?_))))))
      refine ej_ret1 rfl Tryz.results92 rfl (fun w' hp => ⟨?_, hp.below⟩)
      rw [← hsk, if_pos h16b]
    · have h16b := h16
      try simp only [sxb] at h16
      refine cj_skip (ej_blk (ej_th ?_))
      refine cj_regionG (gj_step (y_add rfl rfl (by omega)) rfl rfl rfl (gj_step (y_move rfl) rfl rfl rfl (gj_nil ?_)))
      exact ej_nx (k + 1) (by omega) ⟨by omega, by rw [← hsk, if_neg (by rw [h16b]; simp)]⟩ ⟨rfl, rfl, rfl, rfl, trivial⟩
  · have h9b := h9
    try simp only [sxb] at h9
    refine cj_exit (ej_then_exit (ej_then_exit (ej_blk_hit (ej_th (cj_seq ?_)))))
    refine cj_regionG (gj_step (y_assign rfl) rfl rfl rfl (gj_nil ?_))
    refine ej_th (cj_ret ?_)
    refine ej_ret1 rfl Tryz.results92 rfl (fun w' hp => ⟨?_, hp.below⟩)
    rw [← hsk, List.drop_of_length_le (by omega)]; rfl

theorem k_ContD (l : List DueV) (A : Option Addr) (c : Nat) (f : Nat) (fi ca : Array Value) (q : DueV → Bool) (w : World) (hl : Rd w 2 encDu A l) (hen : ∀ args w, (callFunc f args).run Tryz.prog w = .ok (.enter f args) w) (hpp : ∀ x ∈ l, ∀ w1, Grow w w1 → Calls Tryz.prog f (fi ++ [.agg #[.int .i64 x.rank, .int .i64 x.amount]].toArray ++ ca) w1 (fun e w2 => e = .returned (.bool (q x)) ∧ Grow w1 w2)) : Calls Tryz.prog 58 #[.slice A l.length c, .func (.func f) fi ca] w (fun e w' => e = .returned (.bool (l.any q)) ∧ Grow w w') := by
  refine enter_pure (args := [.slice A l.length c, .func (.func f) fi ca]) [sl (fun b => b < w.heap.size) 2 encDu A l] Tryz.func58 rfl (by rw [Tryz.ntmps58]; simp) (fun g hg => by simp at hg; subst hg; exact ⟨hl, fun _ h => h⟩) ?_
  refine cj_seq ?_
  refine cj_regionG (gj_step (y_assign rfl) rfl rfl rfl (gj_nil ?_))
  refine ej_th (cj_seq ?_)
  refine cj_regionG ?_
  refine gj_step (y_move rfl) rfl rfl rfl (gj_step (y_move rfl) rfl rfl rfl (?_))
  refine gj_step (y_call Tryz.call92 rfl (fun w hp => k_IndexD l A c f fi ca q w hp.rd hen (fun x hx w1 hg => hpp x hx w1 (grow_trans hp.below hg)))) rfl rfl rfl ?_
  refine gj_step (y_geq rfl rfl) rfl rfl rfl (gj_step (y_assign rfl) rfl rfl rfl (?_))
  refine gj_nil ?_
  refine ej_th (cj_ret ?_)
  refine ej_ret1 rfl Tryz.results58 rfl (fun w' hp => ⟨?_, hp.below⟩)
  rw [fidx_any q l]

theorem k_du1 (d : DueV) (w : World)  : Calls Tryz.prog 59 #[.agg #[.int .i64 d.rank, .int .i64 d.amount]] w (fun e w' => e = .returned (.bool (!(dueB d))) ∧ Grow w w') := by
  refine enter_pure (args := [.agg #[.int .i64 d.rank, .int .i64 d.amount]]) [] Tryz.func59 rfl (by rw [Tryz.ntmps59]; simp) (by simp) ?_
  refine cj_seq (cj_region ?_)
  refine oj_box rfl rfl rfl (fun b1 => ?_)
  refine oj_step (y_assign rfl) rfl rfl rfl ?_
  refine oj_nil ?_
  refine ej_th (cj_seq ?_)
  refine cj_regionG ?_
  refine gj_step (y_fa0 fa122_0 rfl) rfl rfl rfl (gj_step (y_load1 Tryz.isAgg3 rfl rfl) rfl rfl rfl (?_))
  refine gj_step (y_call Tryz.call21 rfl (fun w hp => k_within _ _ _ w)) rfl rfl rfl ?_
  refine gj_step (y_not rfl) rfl rfl rfl (gj_step (y_move rfl) rfl rfl rfl (?_))
  refine gj_g 4 7 11 rfl rfl rfl rfl (fun hg7 => gj_yes rfl rfl rfl (y_fa fa122_1 rfl) rfl rfl (gj_yes rfl rfl rfl (y_load1 Tryz.isAgg3 rfl rfl) rfl rfl (gj_yes rfl rfl rfl (y_call Tryz.call21 rfl (fun w hp => k_within _ _ _ w)) rfl rfl (gj_yes rfl rfl rfl (y_not rfl) rfl rfl (gj_nil rfl))))) ?_
  refine gj_step (y_or rfl rfl rfl) rfl rfl rfl (gj_step (y_assign rfl) rfl rfl rfl (?_))
  refine gj_nil ?_
  refine ej_th (cj_ret ?_)
  refine ej_ret1 rfl Tryz.results59 rfl (fun w' hp => ⟨?_, hp.below⟩)
  unfold dueB amtB; rw [Bool.not_and]

theorem k_dues (ds : List DueV) (A : Option Addr) (c : Nat) (w : World) (hl : Rd w 2 encDu A ds) : Calls Tryz.prog 27 #[.slice A ds.length c] w (fun e w' => e = .returned (.bool (duesB ds)) ∧ Grow w w') := by
  refine enter_pure (args := [.slice A ds.length c]) [sl (fun b => b < w.heap.size) 2 encDu A ds] Tryz.func27 rfl (by rw [Tryz.ntmps27]; simp) (fun g hg => by simp at hg; subst hg; exact ⟨hl, fun _ h => h⟩) ?_
  refine cj_seq ?_
  refine cj_regionG (gj_step (y_assign rfl) rfl rfl rfl (gj_nil ?_))
  refine ej_th (cj_seq ?_)
  refine cj_regionG ?_
  refine gj_step (y_move rfl) rfl rfl rfl (gj_step (y_lenA Tryz.underlying73 rfl) rfl rfl rfl (gj_step (y_leq rfl rfl) rfl rfl rfl (gj_step (y_move rfl) rfl rfl rfl (?_))))
  refine gj_g 3 6 9 rfl rfl rfl rfl (fun hg6 => gj_yes rfl rfl rfl (y_move rfl) rfl rfl (gj_yes rfl rfl rfl (y_call Tryz.call58 rfl (fun w hp => k_ContD ds A c 59 #[] #[] (fun x => !(dueB x)) w hp.rd Tryz.call59 (fun x hx w1 hg => k_du1 x w1))) rfl rfl (gj_yes rfl rfl rfl (y_not rfl) rfl rfl (gj_nil rfl)))) ?_
  refine gj_step (y_and rfl rfl rfl) rfl rfl rfl (gj_step (y_assign rfl) rfl rfl rfl (?_))
  refine gj_nil ?_
  refine ej_th (cj_ret ?_)
  refine ej_ret1 rfl Tryz.results27 rfl (fun w' hp => ⟨?_, hp.below⟩)
  unfold duesB; rw [any_not, Bool.not_not]; by_cases h : (ds.length : Int) ≤ 24
  · simp [h, show ds.length ≤ 24 by omega]
  · simp [h, show ¬ ds.length ≤ 24 by omega]

theorem k_has (r : Int) (d : DueV) (w : World)  : Calls Tryz.prog 62 #[.int .i64 r, .agg #[.int .i64 d.rank, .int .i64 d.amount]] w (fun e w' => e = .returned (.bool (d.rank == r)) ∧ Grow w w') := by
  refine enter_pure (args := [.int .i64 r, .agg #[.int .i64 d.rank, .int .i64 d.amount]]) [] Tryz.func62 rfl (by rw [Tryz.ntmps62]; simp) (by simp) ?_
  refine cj_seq (cj_region ?_)
  refine oj_box rfl rfl rfl (fun b3 => ?_)
  refine oj_step (y_assign rfl) rfl rfl rfl ?_
  refine oj_nil ?_
  refine ej_th (cj_seq ?_)
  refine cj_regionG (gj_step (y_fa0 fa122_0 rfl) rfl rfl rfl (gj_step (y_load1 Tryz.isAgg3 rfl rfl) rfl rfl rfl (gj_step (y_move rfl) rfl rfl rfl (gj_step (y_eql rfl rfl) rfl rfl rfl (gj_step (y_assign rfl) rfl rfl rfl (gj_nil ?_))))))
  refine ej_th (cj_ret ?_)
  exact ej_ret1 rfl Tryz.results62 rfl (fun w' hp => ⟨rfl, hp.below⟩)

theorem k_chosen (l : List DueV) (A : Option Addr) (c : Nat) (f : Nat) (fi ca : Array Value) (q : DueV → Bool) (w : World) (hl : Rd w 2 encDu A l) (hb : l.length ≤ 1000) (hen : ∀ args w, (callFunc f args).run Tryz.prog w = .ok (.enter f args) w) (hpp : ∀ x ∈ l, ∀ w1, Grow w w1 → Calls Tryz.prog f (fi ++ [.agg #[.int .i64 x.rank, .int .i64 x.amount]].toArray ++ ca) w1 (fun e w2 => e = .returned (.bool (q x)) ∧ Grow w1 w2)) : Calls Tryz.prog 61 #[.slice A l.length c, .func (.func f) fi ca] w (fun e w' => ∃ A c, e = .returned (.slice A (natsI (chosenL q l)).length c) ∧ Grow w w' ∧ Res w w' 1 enInt A (natsI (chosenL q l))) := by
  have hlen := hl.len
  refine enter_pure (args := [.slice A l.length c, .func (.func f) fi ca]) [sl (fun b => b < w.heap.size) 2 encDu A l] Tryz.func61 rfl (by rw [Tryz.ntmps61]; simp) (fun g hg => by simp at hg; subst hg; exact ⟨hl, fun _ h => h⟩) ?_
  refine cj_seq ?_
  refine cj_regionG (gj_step (y_assign rfl) rfl rfl rfl (gj_nil ?_))
  refine ej_th (cj_seq ?_)
  refine cj_regionG (gj_step (y_assign rfl) rfl rfl rfl (gj_nil ?_))
  refine ej_th (cj_seq (cj_seq ?_))
  refine cj_regionG (gj_step (y_move rfl) rfl rfl rfl (gj_step (y_lenA Tryz.underlying73 rfl) rfl rfl rfl (gj_step (y_move rfl) rfl rfl rfl (gj_nil ?_))))
  refine ej_th (cj_block ?_)
  refine cj_ownNil 3 1 enInt ?_
  refine cj_lpi (X := Nat × Option Addr × Nat × List Int) [(1, _), (4, _), (8, _), (9, _)] (fun ⟨k, A1, c1, xs⟩ => k ≤ l.length ∧ xs = natsI (chosenL q (l.take k)) ∧ xs.length ≤ k) (fun ⟨k, A1, c1, xs⟩ => [(5, .slice A1 xs.length c1), (10, .int .i64 (k : Nat))]) (fun ⟨k, A1, c1, xs⟩ => [ow 3 1 enInt A1 c1 xs]) (fun ⟨k, A1, c1, xs⟩ => [sl (fun b => b < w.heap.size) 2 encDu A l]) (fun ⟨k, A1, c1, xs⟩ => l.length - k) (0, none, 0, []) (⟨Nat.zero_le _, rfl, Nat.le_refl _⟩) ⟨rfl, rfl, rfl, rfl, rfl, rfl, trivial⟩ ?_
  rintro ⟨k, A1, c1, xs⟩ ⟨hk, hxs, hxl⟩
  dsimp only [List.cons_append, List.nil_append]
  refine cj_seq ?_
  refine cj_regionG (gj_step (y_lss rfl rfl) rfl rfl rfl (gj_nil ?_))
  refine ej_th (cj_seq ?_)
  refine cj_cond rfl (fun h11 => ?_) (fun h11 => ?_)
  · have h11b := h11
    try simp only [sxb] at h11
    obtain ⟨x, hx⟩ : ∃ x, l[k]? = some x := ⟨_, List.getElem?_eq_getElem (by omega)⟩
    refine cj_skip (ej_th (cj_seq (cj_block (cj_seq (cj_region ?_)))))
    refine oj_step (y_move rfl) rfl rfl rfl ?_
    refine oj_step (y_ixR (reads_sl) Tryz.underlying73 Tryz.sizeOf122 rfl rfl (⟨by omega, by omega⟩)) rfl rfl rfl ?_
    refine oj_step (y_ldW (reads_sl) Tryz.isAgg122 Tryz.sizeOf122 rfl (hx) (fun _ => rfl)) rfl rfl rfl ?_
    refine oj_alloc Tryz.zeroValue122 rfl rfl (fun b7 => ?_)
    refine oj_step (y_assign rfl) rfl rfl rfl ?_
    refine oj_store rfl rfl rfl rfl Tryz.sizeOf122 rfl ?_
    refine oj_nil ?_
    refine ej_th (cj_seq ?_)
    refine cj_regionG ?_
    refine gj_step (y_move rfl) rfl rfl rfl (gj_step (y_loadN Tryz.isAgg122 Tryz.sizeOf122 rfl) rfl rfl rfl (?_))
    refine gj_step (y_callV hen rfl rfl (fun w1 hp => hpp x (List.mem_of_getElem? hx) w1 hp.below)) rfl rfl rfl ?_
    refine gj_nil ?_
    refine ej_th ?_
    refine cj_cond rfl (fun h17 => ?_) (fun h17 => ?_)
    · have h17b := h17
      try simp only [sxb] at h17
      refine cj_region ?_
      refine oj_step (y_move rfl) rfl rfl rfl ?_
      refine oj_step (y_move rfl) rfl rfl rfl ?_
      refine oj_buildSlice (cs := [.int .i64 (k : Nat)]) [.int .i64 0] Tryz.underlying23 Tryz.sizeOf3 Tryz.zeroValue3 rfl rfl (by kernel_rfl) (by kernel_rfl) rfl (fun b20 => ?_)
      refine oj_append  el23 (fun _ => rfl) enInt_one rfl rfl rfl (reads_lit (sz := 1) [((k : Nat) : Int)] (fun _ => rfl) rfl) (by unfold maxLen; simp only [List.length_append, List.length_cons, List.length_nil]; omega) (by simp only [List.length_append, List.length_cons, List.length_nil]; omega) rfl (fun A21 c21 => ?_)
      refine oj_step (y_assign rfl) rfl rfl rfl ?_
      refine oj_nil ?_
      refine ej_blk (ej_th ?_)
      refine cj_regionG (gj_step (y_add rfl rfl (by omega)) rfl rfl rfl (gj_step (y_move rfl) rfl rfl rfl (gj_nil ?_)))
      exact ej_nx (k + 1, A21, c21, xs ++ [((k : Nat) : Int)]) (by simp only; omega) ⟨by first | omega | (simp only; omega), by rw [hxs, chosen_snoc q hx, if_pos h17b]; simp [natsI], by simp only [List.length_append, List.length_cons, List.length_nil]; omega⟩ ⟨rfl, rfl, rfl, rfl, rfl, rfl, trivial⟩
    · have h17b := h17
      try simp only [sxb] at h17
      refine cj_skip (ej_blk (ej_th ?_))
      refine cj_regionG (gj_step (y_add rfl rfl (by omega)) rfl rfl rfl (gj_step (y_move rfl) rfl rfl rfl (gj_nil ?_)))
      exact ej_nx (k + 1, A1, c1, xs) (by simp only; omega) ⟨by first | omega | (simp only; omega), by rw [hxs, chosen_snoc q hx, if_neg (by rw [h17b]; simp), List.append_nil], by simp only; omega⟩ ⟨rfl, rfl, rfl, rfl, rfl, rfl, trivial⟩
  · have h11b := h11
    try simp only [sxb] at h11
    refine cj_exit (ej_then_exit (ej_then_exit (ej_blk_hit (ej_th (cj_seq ?_)))))
    refine cj_regionG (gj_step (y_move rfl) rfl rfl rfl (gj_step (y_assign rfl) rfl rfl rfl (gj_nil ?_)))
    refine ej_th (cj_ret ?_)
    have hkl : k = l.length := by omega
    subst hkl
    rw [List.take_length] at hxs
    rw [← hxs]
    exact ej_ret1 rfl Tryz.results61 rfl (fun w' hp => ⟨A1, c1, rfl, hp.below, hp.res enInt_len (by unfold maxLen; omega)⟩)

set_option maxHeartbeats 1000000 in
theorem k_spread (ds : List DueV) (A : Option Addr) (c : Nat) (left : Int) (w : World) (hl : Rd w 2 encDu A ds) (hdu : duesB ds = true) (hleft : 0 ≤ left ∧ left ≤ 67108864) : Calls Tryz.prog 29 #[.slice A ds.length c, .int .i64 left] w (fun e w' => ∃ A c, e = .returned (.tuple #[.slice A (spreadL ds left).1.length c, .int .i64 (spreadL ds left).2]) ∧ Grow w w' ∧ Res w w' 1 enInt A (spreadL ds left).1) := by
  have hlen := hl.len
  obtain ⟨h24, hdb⟩ := dues_t hdu
  have hok := dues_ok hdu
  refine enter_pure (args := [.slice A ds.length c, .int .i64 left]) [sl (fun b => b < w.heap.size) 2 encDu A ds] Tryz.func29 rfl (by rw [Tryz.ntmps29]; simp) (fun g hg => by simp at hg; subst hg; exact ⟨hl, fun _ h => h⟩) ?_
  refine cj_seq ?_
  refine cj_regionG (gj_step (y_assign rfl) rfl rfl rfl (gj_step (y_assign rfl) rfl rfl rfl (gj_nil ?_)))
  refine ej_th (cj_seq (cj_region ?_))
  refine oj_step (y_move rfl) rfl rfl rfl ?_
  refine oj_step (y_lenA Tryz.underlying73 rfl) rfl rfl rfl ?_
  refine oj_makeSlice1 (n := ds.length) Tryz.underlying23 Tryz.type3 rfl rfl rfl rfl rfl (by show 8 * _ ≤ _; omega) (by omega) rfl (fun b17 => ?_)
  refine oj_litOw (b := b17) (e := 3) (c := ds.length) (sz := 1) (enc := enInt) (List.replicate (ds.length) (0 : Int)) (by simp) (replicate_enInt _) (by simp) (by unfold maxLen; omega) ?_
  refine oj_step (y_assign rfl) rfl rfl rfl ?_
  refine oj_nil ?_
  refine ej_th (cj_seq (cj_seq ?_))
  refine cj_regionG (gj_step (y_move rfl) rfl rfl rfl (gj_nil ?_))
  refine ej_th (cj_block ?_)
  refine cj_lpi (X := Nat × List Int × Int) [(0, _), (4, _), (5, _), (6, _)] (fun ⟨r, paid, lf⟩ => r ≤ 10 ∧ SpInv ds (r : Nat) left (paid, lf) ∧ spreadF ds (10 - r) (paid, lf) = spreadL ds left) (fun ⟨r, paid, lf⟩ => [(1, .int .i64 lf), (18, .int .i64 (r : Nat))]) (fun ⟨r, paid, lf⟩ => [ow 3 1 enInt (some ⟨b17, 0, none⟩) ds.length (paid)]) (fun ⟨r, paid, lf⟩ => [sl (fun b => b < w.heap.size) 2 encDu A ds]) (fun ⟨r, paid, lf⟩ => 10 - r) (0, List.replicate ds.length 0, left) (⟨Nat.zero_le _, sp_start hleft.1, rfl⟩) ⟨rfl, rfl, rfl, rfl, rfl, rfl, trivial⟩ ?_
  rintro ⟨r, paid, lf⟩ ⟨hr, hsi, hsp⟩
  dsimp only [List.cons_append, List.nil_append]
  refine cj_seq ?_
  refine cj_regionG (gj_step (y_lss rfl rfl) rfl rfl rfl (gj_nil ?_))
  refine ej_th (cj_seq ?_)
  refine cj_cond rfl (fun h19 => ?_) (fun h19 => ?_)
  · have h19b := h19
    try simp only [sxb] at h19
    have hhl : (hereL ds (r : Nat)).length ≤ ds.length := chosen_len _ _
    have hl0 : 0 ≤ lf := hsi.left
    have hl1 : lf ≤ 67108864 := by have h9 := hsi.sum; have h8 := sumI_nonneg (l := paid) (fun x hx => by obtain ⟨j, hj, rfl⟩ := List.mem_iff_getElem.1 hx; have h7 := hsi.nn j; rwa [gd_lt hj] at h7); simp only at h9; omega
    refine cj_skip (ej_th (cj_seq (cj_block (cj_seq ?_))))
    refine cj_regionG (gj_step (y_move rfl) rfl rfl rfl (gj_step (y_assign rfl) rfl rfl rfl (gj_nil ?_)))
    refine ej_th (cj_seq (cj_region ?_))
    refine oj_step (y_move rfl) rfl rfl rfl ?_
    refine oj_step (y_move rfl) rfl rfl rfl ?_
    refine oj_step (y_makeFunc rfl rfl) rfl rfl rfl ?_
    refine oj_callS (fun A c => .slice A (natsI (hereL ds (r : Nat))).length c) 1 enInt (natsI (hereL ds (r : Nat))) Tryz.call61 rfl (fun w hp => k_chosen ds A c 62 #[.int .i64 (r : Nat)] #[] (fun d : DueV => d.rank == (r : Nat)) w hp.rd (by omega) Tryz.call62 (fun x hx w1 hg => k_has (r : Nat) x w1)) rfl (fun A24 c24 fp24 hfp24 => ?_)
    refine oj_step (y_assign rfl) rfl rfl rfl ?_
    refine oj_nil ?_
    refine ej_th (cj_seq ?_)
    refine cj_regionG (gj_step (y_assign rfl) rfl rfl rfl (gj_nil ?_))
    refine ej_th (cj_seq (cj_seq ?_))
    refine cj_regionG (gj_step (y_move rfl) rfl rfl rfl (gj_step (y_lenA Tryz.underlying23 rfl) rfl rfl rfl (gj_step (y_move rfl) rfl rfl rfl (gj_nil ?_))))
    refine ej_th (cj_block ?_)
    rw [nats_len]
    refine cj_ownNil 3 1 enInt ?_
    refine cj_lpi (X := Nat × Option Addr × Nat × List Int) [(1, _), (18, _), (0, _), (4, _), (5, _), (6, _), (8, _), (25, _), (26, _)] (fun ⟨k, A1, c1, xs⟩ => k ≤ (hereL ds (r : Nat)).length ∧ xs = (ownL ds (r : Nat)).take k ∧ xs.length = k) (fun ⟨k, A1, c1, xs⟩ => [(9, .slice A1 xs.length c1), (27, .int .i64 (k : Nat))]) (fun ⟨k, A1, c1, xs⟩ => [ow 3 1 enInt A1 c1 xs, ow 3 1 enInt (some ⟨b17, 0, none⟩) ds.length (paid)]) (fun ⟨k, A1, c1, xs⟩ => [sl fp24 1 enInt A24 (natsI (hereL ds (r : Nat))), sl (fun b => b < w.heap.size) 2 encDu A ds]) (fun ⟨k, A1, c1, xs⟩ => (hereL ds (r : Nat)).length - k) (0, none, 0, []) (⟨Nat.zero_le _, rfl, rfl⟩) ⟨rfl, rfl, rfl, rfl, rfl, rfl, rfl, rfl, rfl, rfl, rfl, trivial⟩ ?_
    rintro ⟨k, A1, c1, xs⟩ ⟨hk, hxs, hxl⟩
    dsimp only [List.cons_append, List.nil_append]
    refine cj_seq ?_
    refine cj_regionG (gj_step (y_lss rfl rfl) rfl rfl rfl (gj_nil ?_))
    refine ej_th (cj_seq ?_)
    refine cj_cond rfl (fun h28 => ?_) (fun h28 => ?_)
    · have h28b := h28
      try simp only [sxb] at h28
      obtain ⟨i, hi⟩ : ∃ i, (hereL ds (r : Nat))[k]? = some i := ⟨_, List.getElem?_eq_getElem (by omega)⟩
      have hi2 := nats_get hi
      have hil := (chosen_mem (List.mem_of_getElem? hi)).1
      obtain ⟨d, hd⟩ : ∃ d, ds[i]? = some d := ⟨_, List.getElem?_eq_getElem (by omega)⟩
      refine cj_skip (ej_th (cj_seq (cj_block (cj_seq ?_))))
      refine cj_regionG (gj_step (y_ixRm (m := (hereL ds (r : Nat)).length) (xs := natsI (hereL ds (r : Nat))) (nats_len _).symm reads_sl Tryz.underlying23 Tryz.sizeOf3 rfl rfl ⟨by omega, by omega⟩) rfl rfl rfl (gj_step (y_ld0 (reads_sl) Tryz.isAgg3 rfl (hi2) rfl) rfl rfl rfl (gj_step (y_assign rfl) rfl rfl rfl (gj_nil ?_))))
      refine ej_th (cj_region ?_)
      refine oj_step (y_move rfl) rfl rfl rfl ?_
      refine oj_step (y_move rfl) rfl rfl rfl ?_
      refine oj_step (y_move rfl) rfl rfl rfl ?_
      refine oj_step (y_ixR (reads_sl) Tryz.underlying73 Tryz.sizeOf122 rfl rfl (⟨by omega, by omega⟩)) rfl rfl rfl ?_
      refine oj_step (y_faE fa122_1 rfl) rfl rfl rfl ?_
      refine oj_step (y_ld1 (reads_sl) Tryz.isAgg3 rfl (hd) rfl) rfl rfl rfl ?_
      refine oj_buildSlice (cs := [.int .i64 d.amount]) [.int .i64 0] Tryz.underlying23 Tryz.sizeOf3 Tryz.zeroValue3 rfl rfl (by kernel_rfl) (by kernel_rfl) rfl (fun b37 => ?_)
      refine oj_append  el23 (fun _ => rfl) enInt_one rfl rfl rfl (reads_lit (sz := 1) [d.amount] (fun _ => rfl) rfl) (by unfold maxLen; simp only [List.length_append, List.length_cons, List.length_nil]; omega) (by simp only [List.length_append, List.length_cons, List.length_nil]; omega) rfl (fun A38 c38 => ?_)
      refine oj_step (y_assign rfl) rfl rfl rfl ?_
      refine oj_nil ?_
      refine ej_blk (ej_th ?_)
      refine cj_regionG (gj_step (y_add rfl rfl (by omega)) rfl rfl rfl (gj_step (y_move rfl) rfl rfl rfl (gj_nil ?_)))
      exact ej_nx (k + 1, A38, c38, xs ++ [d.amount]) (by simp only; omega) ⟨by first | omega | (simp only; omega), by rw [hxs, List.take_add_one, own_get hi hd]; rfl, by simp only [List.length_append, List.length_cons, List.length_nil]; omega⟩ ⟨rfl, rfl, rfl, rfl, rfl, rfl, rfl, rfl, rfl, rfl, rfl, trivial⟩
    · have h28b := h28
      try simp only [sxb] at h28
      refine cj_exit (ej_then_exit (ej_then_exit (ej_blk_hit (ej_th (cj_seq ?_)))))
      have hke : k = (hereL ds (r : Nat)).length := by omega
      subst hke
      rw [List.take_of_length_le (by rw [own_len]; exact Nat.le_refl _)] at hxs
      have hxn : ∀ x ∈ xs, 0 ≤ x := by rw [hxs]; exact own_nn hok _
      have hxm : ∀ x ∈ xs, x ≤ 67108864 := by rw [hxs]; exact own_le (by decide) (fun d hd => (hdb d hd).2.2)
      have hxs2 : sumI xs ≤ 4611686018427387904 := by have h9 := sumI_le_mul hxm; omega
      refine cj_frzS (O' := [ow 3 1 enInt (some ⟨b17, 0, none⟩) ds.length (paid)]) (ow 3 1 enInt A1 c1 xs) (sl (ow 3 1 enInt A1 c1 xs).fp 1 enInt A1 xs) (fun w hp => owSl (hp.own _ (List.mem_cons_self ..)).1 enInt_len (by unfold maxLen; omega) (fun _ h => h)) (fun b hb => .inl hb) ?_
      refine cj_regionG ?_
      refine gj_step (y_move rfl) rfl rfl rfl (?_)
      refine gj_step (y_call Tryz.call57 rfl (fun w hp => k_sum xs A1 c1 w hp.rd hxn hxs2)) rfl rfl rfl ?_
      refine gj_step (y_assign rfl) rfl rfl rfl (?_)
      refine gj_nil ?_
      refine ej_th (cj_seq (cj_seq ?_))
      refine cj_regionG (gj_step (y_move rfl) rfl rfl rfl (gj_step (y_eql rfl rfl) rfl rfl rfl (gj_nil ?_)))
      refine ej_th ?_
      refine cj_cond rfl (fun h43 => ?_) (fun h43 => ?_)
      · have h43b := h43
        try simp only [sxb] at h43
        have hz : sumI (ownL ds (r : Nat)) = 0 := by rw [← hxs]; simpa using h43b
        have he2 : rankS ds (paid, lf) (r : Nat) = (paid, lf) := by unfold rankS; rw [if_pos hz]
        have hsi2 : SpInv ds ((r + 1 : Nat) : Int) left (paid, lf) := by have h9 := hsi.step hok; rw [he2] at h9; exact h9
        refine cj_exit (ej_then_exit (ej_blk_hit (ej_th ?_)))
        refine cj_regionG (gj_step (y_add rfl rfl (by omega)) rfl rfl rfl (gj_step (y_move rfl) rfl rfl rfl (gj_nil ?_)))
        rw [show ((r : Nat) : Int) + 1 = ((r + 1 : Nat) : Int) by omega]
        exact ej_nx (r + 1, paid, lf) (by first | omega | (simp only; omega)) ⟨by first | omega | (simp only; omega), hsi2, by rw [spF_step (by omega), he2] at hsp; exact hsp⟩ ⟨rfl, rfl, rfl, rfl, rfl, rfl, trivial⟩
      · have h43b := h43
        try simp only [sxb] at h43
        have hz : ¬ sumI (ownL ds (r : Nat)) = 0 := by rw [← hxs]; simpa using h43b
        refine cj_skip (ej_th ?_)
        refine cj_cuti (X := Option Addr × Nat × (Nat → Prop) × List Int) [(1, _), (18, _), (0, _), (4, _), (5, _), (6, _), (8, _), (12, _)] ⟨rfl, rfl, rfl, rfl, rfl, rfl, rfl, rfl, trivial⟩ (fun ⟨A9, c9, fp9, ys⟩ => ys = gotL ds (r : Nat) lf) (fun ⟨A9, c9, fp9, ys⟩ => [(9, .slice A9 ys.length c9)]) (fun ⟨A9, c9, fp9, ys⟩ => [ow 3 1 enInt (some ⟨b17, 0, none⟩) ds.length (paid)]) (fun ⟨A9, c9, fp9, ys⟩ => [sl fp9 1 enInt A9 ys, sl fp24 1 enInt A24 (natsI (hereL ds (r : Nat))), sl (fun b => b < w.heap.size) 2 encDu A ds]) ?_ ?_
        · refine cj_seq ?_
          refine cj_regionG (gj_step (y_move rfl) rfl rfl rfl (gj_step (y_move rfl) rfl rfl rfl (gj_step (y_lss rfl rfl) rfl rfl rfl (gj_nil ?_))))
          refine ej_th ?_
          refine cj_cond rfl (fun h46 => ?_) (fun h46 => ?_)
          · have h46b := h46
            try simp only [sxb] at h46
            refine cj_region ?_
            refine oj_step (y_move rfl) rfl rfl rfl ?_
            refine oj_step (y_move rfl) rfl rfl rfl ?_
            refine oj_callS (fun A c => .slice A (shareL xs lf).length c) 1 enInt (shareL xs lf) Tryz.call28 rfl (fun w hp => k_share xs A1 c1 lf w hp.rd (by omega) (fun x hx => ⟨hxn x hx, hxm x hx⟩) (by have h9 := sumI_nonneg hxn; simp at h43; omega) ⟨by omega, by omega⟩) rfl (fun A49 c49 fp49 hfp49 => ?_)
            refine oj_step (y_assign rfl) rfl rfl rfl ?_
            refine oj_nil ?_
            exact ej_ct (A49, c49, fp49, shareL xs lf) (by unfold gotL; rw [← hxs, if_pos (by omega)]) ⟨rfl, rfl, rfl, rfl, rfl, rfl, rfl, rfl, rfl, trivial⟩
          · have h46b := h46
            try simp only [sxb] at h46
            refine cj_skip ?_
            exact ej_ct (A1, c1, (ow 3 1 enInt A1 c1 xs).fp, xs) (by unfold gotL; rw [← hxs, if_neg (by omega)]) ⟨rfl, rfl, rfl, rfl, rfl, rfl, rfl, rfl, rfl, trivial⟩
        · rintro ⟨A9, c9, fp9, ys⟩ hys
          dsimp only [List.cons_append, List.nil_append]
          have hyl : ys.length = (hereL ds (r : Nat)).length := by rw [hys]; exact got_len hok hsi.left hz
          refine cj_seq (cj_seq ?_)
          refine cj_regionG (gj_step (y_move rfl) rfl rfl rfl (gj_step (y_lenA Tryz.underlying23 rfl) rfl rfl rfl (gj_step (y_move rfl) rfl rfl rfl (gj_nil ?_))))
          refine ej_th (cj_block ?_)
          refine cj_lpi (X := Nat × List Int) [(9, _), (1, _), (18, _), (0, _), (4, _), (5, _), (6, _), (12, _), (50, _), (51, _)] (fun ⟨k, pd⟩ => k ≤ (hereL ds (r : Nat)).length ∧ pd = putL paid ((hereL ds (r : Nat)).take k) (ys.take k) ∧ pd.length = ds.length) (fun ⟨k, pd⟩ => [(52, .int .i64 (k : Nat))]) (fun ⟨k, pd⟩ => [ow 3 1 enInt (some ⟨b17, 0, none⟩) ds.length (pd)]) (fun ⟨k, pd⟩ => [sl fp9 1 enInt A9 ys, sl fp24 1 enInt A24 (natsI (hereL ds (r : Nat))), sl (fun b => b < w.heap.size) 2 encDu A ds]) (fun ⟨k, pd⟩ => (hereL ds (r : Nat)).length - k) (0, paid) (⟨Nat.zero_le _, rfl, hsi.len⟩) ⟨rfl, rfl, rfl, rfl, rfl, rfl, rfl, rfl, rfl, rfl, rfl, trivial⟩ ?_
          rintro ⟨k, pd⟩ ⟨hk2, hpd, hpl⟩
          dsimp only [List.cons_append, List.nil_append]
          refine cj_seq ?_
          refine cj_regionG (gj_step (y_lss rfl rfl) rfl rfl rfl (gj_nil ?_))
          refine ej_th (cj_seq ?_)
          refine cj_cond rfl (fun h53 => ?_) (fun h53 => ?_)
          · have h53b := h53
            try simp only [sxb] at h53
            obtain ⟨i, hi⟩ : ∃ i, (hereL ds (r : Nat))[k]? = some i := ⟨_, List.getElem?_eq_getElem (by omega)⟩
            have hi2 := nats_get hi
            have hil := (chosen_mem (List.mem_of_getElem? hi)).1
            obtain ⟨v, hv⟩ : ∃ v, ys[k]? = some v := ⟨_, List.getElem?_eq_getElem (by omega)⟩
            refine cj_skip (ej_th (cj_seq (cj_block (cj_seq ?_))))
            refine cj_regionG (gj_step (y_move rfl) rfl rfl rfl (gj_step (y_ixRm (m := (hereL ds (r : Nat)).length) (xs := natsI (hereL ds (r : Nat))) (nats_len _).symm reads_sl Tryz.underlying23 Tryz.sizeOf3 rfl rfl ⟨by omega, by omega⟩) rfl rfl rfl (gj_step (y_ld0 (reads_sl) Tryz.isAgg3 rfl (hi2) rfl) rfl rfl rfl (gj_step (y_assign rfl) rfl rfl rfl (gj_step (y_assign rfl) rfl rfl rfl (gj_nil ?_))))))
            refine ej_th (cj_region ?_)
            refine oj_step (y_move rfl) rfl rfl rfl ?_
            refine oj_step (y_move rfl) rfl rfl rfl ?_
            refine oj_step (y_move rfl) rfl rfl rfl ?_
            refine oj_step (y_move rfl) rfl rfl rfl ?_
            refine oj_step (y_ixR (reads_sl) Tryz.underlying23 Tryz.sizeOf3 rfl rfl (⟨by omega, by omega⟩)) rfl rfl rfl ?_
            refine oj_step (y_ld0 (reads_sl) Tryz.isAgg3 rfl (hv) rfl) rfl rfl rfl ?_
            refine oj_step (y_ixRm (m := ds.length) (xs := pd) hpl.symm (reads_ow enInt_len) Tryz.underlying23 Tryz.sizeOf3 rfl rfl ⟨by omega, by omega⟩) rfl rfl rfl ?_
            refine oj_storeE (i := i) (u := v) rfl rfl rfl rfl Tryz.sizeOf3 (fun _ => rfl) (by rw [hpl]; omega) ?_
            refine oj_nil ?_
            refine ej_blk (ej_th ?_)
            refine cj_regionG (gj_step (y_add rfl rfl (by omega)) rfl rfl rfl (gj_step (y_move rfl) rfl rfl rfl (gj_nil ?_)))
            exact ej_nx (k + 1, pd.set i v) (by simp only; omega) ⟨by first | omega | (simp only; omega), by rw [hpd, List.take_add_one, hi, List.take_add_one, hv, Option.toList_some, Option.toList_some, putL_snoc _ _ _ _ _ (by rw [List.length_take, List.length_take, hyl])], by rw [List.length_set, hpl]⟩ ⟨rfl, rfl, rfl, rfl, rfl, rfl, rfl, rfl, rfl, rfl, rfl, trivial⟩
          · have h53b := h53
            try simp only [sxb] at h53
            have hk3 : k = (hereL ds (r : Nat)).length := by omega
            subst hk3
            rw [List.take_length, List.take_of_length_le (by omega)] at hpd
            have he2 : rankS ds (paid, lf) (r : Nat) = (pd, lf - min lf (sumI xs)) := by unfold rankS; rw [if_neg hz, ← hxs, hpd, hys]
            have hsi2 : SpInv ds ((r + 1 : Nat) : Int) left (pd, lf - min lf (sumI xs)) := by have h9 := hsi.step hok; rw [he2] at h9; exact h9
            have hx0 := sumI_nonneg hxn
            refine cj_exit (ej_then_exit (ej_then_exit (ej_blk_hit (ej_th ?_))))
            refine cj_regionG (gj_step (y_move rfl) rfl rfl rfl (gj_step (y_move rfl) rfl rfl rfl (gj_step (y_move rfl) rfl rfl rfl (gj_step (y_min rfl rfl) rfl rfl rfl (gj_step (y_sub rfl rfl (by omega)) rfl rfl rfl (gj_step (y_assign rfl) rfl rfl rfl (gj_nil ?_)))))))
            refine ej_blk (ej_th ?_)
            refine cj_regionG (gj_step (y_add rfl rfl (by omega)) rfl rfl rfl (gj_step (y_move rfl) rfl rfl rfl (gj_nil ?_)))
            rw [show ((r : Nat) : Int) + 1 = ((r + 1 : Nat) : Int) by omega]
            exact ej_nx (r + 1, pd, lf - min lf (sumI xs)) (by first | omega | (simp only; omega)) ⟨by first | omega | (simp only; omega), hsi2, by rw [spF_step (by omega), he2] at hsp; exact hsp⟩ ⟨rfl, rfl, rfl, rfl, rfl, rfl, trivial⟩
  · have h19b := h19
    try simp only [sxb] at h19
    refine cj_exit (ej_then_exit (ej_then_exit (ej_blk_hit (ej_th (cj_seq ?_)))))
    refine cj_regionG (gj_step (y_move rfl) rfl rfl rfl (gj_step (y_move rfl) rfl rfl rfl (gj_step (y_assign rfl) rfl rfl rfl (gj_step (y_assign rfl) rfl rfl rfl (gj_nil ?_)))))
    refine ej_th (cj_ret ?_)
    have h10 : r = 10 := by omega
    subst h10
    rw [show 10 - 10 = 0 from rfl, spreadF] at hsp
    have hpl : paid.length = ds.length := hsi.len
    rw [← hpl, ← hsp]
    exact ej_ret2 rfl Tryz.results29 rfl rfl (fun w' hp => ⟨_, _, rfl, hp.below, hp.res enInt_len (show paid.length ≤ maxLen by unfold maxLen; omega)⟩)

end Go.Proofs.YtppfniekcgnmjaaGreat.Pu
namespace Go.Proofs.YtppfniekcgnmjaaGreat.Pu
open Go.Sx Go.RowKit
set_option maxRecDepth 20000
theorem el26 : ElemIs Tryz.prog 26 32 3 40 := ⟨⟨_, (.agg #[.int .i64 0, .slice none 0 0, .int .i64 0]), Tryz.underlying26, Tryz.type32, by kernel_rfl, by kernel_rfl, by kernel_rfl, by kernel_rfl, by decide⟩⟩
theorem fa75_0 : FieldIs Tryz.prog 75 0 0 1 false := ⟨⟨_, _, Tryz.underlying75, rfl, rfl, Tryz.sizeOf9, Tryz.isAgg9, by decide⟩⟩
theorem fa75_1 : FieldIs Tryz.prog 75 1 1 1 false := ⟨⟨_, _, Tryz.underlying75, rfl, rfl, Tryz.sizeOf3, Tryz.isAgg3, by decide⟩⟩
theorem fa75_2 : FieldIs Tryz.prog 75 2 2 1 false := ⟨⟨_, _, Tryz.underlying75, rfl, rfl, Tryz.sizeOf73, Tryz.isAgg73, by decide⟩⟩
theorem st32 : StructIs Tryz.prog 32 [(0, 1), (1, 1), (2, 1)] [.int .i64 0, .slice none 0 0, .int .i64 0] := ⟨⟨_, Tryz.underlying32, fun w => by simp [Tryz.sizeOf23, Tryz.sizeOf3], Tryz.zeroValue32⟩⟩
end Go.Proofs.YtppfniekcgnmjaaGreat.Pu
namespace Go.Proofs.YtppfniekcgnmjaaGreat.Pu
open Go.Sx Go.RowKit Um
set_option maxRecDepth 20000
theorem k_IndexP (l : List PartV) (A : Option Addr) (c : Nat) (f : Nat) (fi ca : Array Value) (q : PartV → Bool) (w : World) (hl : Rd w 3 encPa A l) (hen : ∀ args w, (callFunc f args).run Tryz.prog w = .ok (.enter f args) w) (hpp : ∀ x ∈ l, ∀ w1, Grow w w1 → Calls Tryz.prog f (fi ++ [.agg #[.string x.name, .int .i64 x.value, .slice x.A x.dues.length x.c]].toArray ++ ca) w1 (fun e w2 => e = .returned (.bool (q x)) ∧ Grow w1 w2)) : Calls Tryz.prog 55 #[.slice A l.length c, .func (.func f) fi ca] w (fun e w' => e = .returned (.int .i64 (fidx q l 0)) ∧ Grow w w') := by
  have hlen := hl.len
  refine enter_pure (args := [.slice A l.length c, .func (.func f) fi ca]) [sl (fun b => b < w.heap.size) 3 encPa A l] Tryz.func55 rfl (by rw [Tryz.ntmps55]; simp) (fun g hg => by simp at hg; subst hg; exact ⟨hl, fun _ h => h⟩) ?_
  refine cj_seq ?_
  refine cj_regionG (gj_step (y_assign rfl) rfl rfl rfl (gj_nil ?_))
  refine ej_th (cj_seq (cj_seq ?_))
  refine cj_regionG (gj_step (y_move rfl) rfl rfl rfl (gj_step (y_lenA Tryz.underlying22 rfl) rfl rfl rfl (gj_step (y_move rfl) rfl rfl rfl (gj_nil ?_))))
  refine ej_th (cj_block ?_)
  refine cj_lpic (X := Nat) [(0, _), (1, _), (7, _)] (fun k => k ≤ l.length ∧ fidx q (l.drop k) k = fidx q l 0) (fun k => [(8, .int .i64 (k : Nat))]) (fun k => l.length - k) 0 (⟨Nat.zero_le _, rfl⟩) ⟨rfl, rfl, rfl, rfl, trivial⟩ ?_
  rintro k ⟨hk, hsk⟩
  dsimp only [List.cons_append, List.nil_append]
  refine cj_seq ?_
  refine cj_regionG (gj_step (y_lss rfl rfl) rfl rfl rfl (gj_nil ?_))
  refine ej_th (cj_seq ?_)
  refine cj_cond rfl (fun h9 => ?_) (fun h9 => ?_)
  · have h9b := h9
    try simp only [sxb] at h9
    obtain ⟨x, hx⟩ : ∃ x, l[k]? = some x := ⟨_, List.getElem?_eq_getElem (by omega)⟩
    rw [fidx_drop q l k x hx] at hsk
    refine cj_skip (ej_th (cj_seq (cj_block (cj_seq ?_))))
    refine cj_regionG (gj_step (y_move rfl) rfl rfl rfl (gj_step (y_assign rfl) rfl rfl rfl (gj_nil ?_)))
    refine ej_th (cj_seq ?_)
    refine cj_regionG ?_
    refine gj_step (y_move rfl) rfl rfl rfl (gj_step (y_move rfl) rfl rfl rfl (gj_step (y_move rfl) rfl rfl rfl (gj_step (y_ixR (reads_sl) Tryz.underlying22 Tryz.sizeOf75 rfl rfl (⟨by omega, by omega⟩)) rfl rfl rfl (gj_step (y_ldW (reads_sl) Tryz.isAgg75 Tryz.sizeOf75 rfl (hx) (fun _ => rfl)) rfl rfl rfl (?_)))))
    refine gj_step (y_callV hen rfl rfl (fun w1 hp => hpp x (List.mem_of_getElem? hx) w1 hp.below)) rfl rfl rfl ?_
    refine gj_nil ?_
    refine ej_th ?_
    refine cj_cond rfl (fun h16 => ?_) (fun h16 => ?_)
    · have h16b := h16
      try simp only [sxb] at h16
      refine cj_seq ?_
      refine cj_regionG (gj_step (y_move rfl) rfl rfl rfl (gj_step (y_assign rfl) rfl rfl rfl (gj_nil ?_)))
      refine ej_th (cj_ret (ej_blk_ret (ej_then_ret (ej_then_ret (ej_blk_ret (ej_then_ret ?_))))))
      refine ej_ret1 rfl Tryz.results55 rfl (fun w' hp => ⟨?_, hp.below⟩)
      rw [← hsk, if_pos h16b]
    · have h16b := h16
      try simp only [sxb] at h16
      refine cj_skip (ej_blk (ej_th ?_))
      refine cj_regionG (gj_step (y_add rfl rfl (by omega)) rfl rfl rfl (gj_step (y_move rfl) rfl rfl rfl (gj_nil ?_)))
      exact ej_nx (k + 1) (by omega) ⟨by omega, by rw [← hsk, if_neg (by rw [h16b]; simp)]⟩ ⟨rfl, rfl, rfl, rfl, trivial⟩
  · have h9b := h9
    try simp only [sxb] at h9
    refine cj_exit (ej_then_exit (ej_then_exit (ej_blk_hit (ej_th (cj_seq ?_)))))
    refine cj_regionG (gj_step (y_assign rfl) rfl rfl rfl (gj_nil ?_))
    refine ej_th (cj_ret ?_)
    refine ej_ret1 rfl Tryz.results55 rfl (fun w' hp => ⟨?_, hp.below⟩)
    rw [← hsk, List.drop_of_length_le (by omega)]; rfl

theorem k_ContP (l : List PartV) (A : Option Addr) (c : Nat) (f : Nat) (fi ca : Array Value) (q : PartV → Bool) (w : World) (hl : Rd w 3 encPa A l) (hen : ∀ args w, (callFunc f args).run Tryz.prog w = .ok (.enter f args) w) (hpp : ∀ x ∈ l, ∀ w1, Grow w w1 → Calls Tryz.prog f (fi ++ [.agg #[.string x.name, .int .i64 x.value, .slice x.A x.dues.length x.c]].toArray ++ ca) w1 (fun e w2 => e = .returned (.bool (q x)) ∧ Grow w1 w2)) : Calls Tryz.prog 23 #[.slice A l.length c, .func (.func f) fi ca] w (fun e w' => e = .returned (.bool (l.any q)) ∧ Grow w w') := by
  refine enter_pure (args := [.slice A l.length c, .func (.func f) fi ca]) [sl (fun b => b < w.heap.size) 3 encPa A l] Tryz.func23 rfl (by rw [Tryz.ntmps23]; simp) (fun g hg => by simp at hg; subst hg; exact ⟨hl, fun _ h => h⟩) ?_
  refine cj_seq ?_
  refine cj_regionG (gj_step (y_assign rfl) rfl rfl rfl (gj_nil ?_))
  refine ej_th (cj_seq ?_)
  refine cj_regionG ?_
  refine gj_step (y_move rfl) rfl rfl rfl (gj_step (y_move rfl) rfl rfl rfl (?_))
  refine gj_step (y_call Tryz.call55 rfl (fun w hp => k_IndexP l A c f fi ca q w hp.rd hen (fun x hx w1 hg => hpp x hx w1 (grow_trans hp.below hg)))) rfl rfl rfl ?_
  refine gj_step (y_geq rfl rfl) rfl rfl rfl (gj_step (y_assign rfl) rfl rfl rfl (?_))
  refine gj_nil ?_
  refine ej_th (cj_ret ?_)
  refine ej_ret1 rfl Tryz.results23 rfl (fun w' hp => ⟨?_, hp.below⟩)
  rw [fidx_any q l]

theorem k_po1 (x p : PartV) (b : Nat) (w : World) (hb : (ownB b (cellsB 75 [.string p.name, .int .i64 p.value, .slice p.A p.dues.length p.c])).P w) : Calls Tryz.prog 24 #[.agg #[.string x.name, .int .i64 x.value, .slice x.A x.dues.length x.c], .pointer (some ⟨b, 0, none⟩)] w (fun e w' => e = .returned (.bool (x.name == p.name)) ∧ Grow w w') := by
  refine enter_pure (args := [.agg #[.string x.name, .int .i64 x.value, .slice x.A x.dues.length x.c], .pointer (some ⟨b, 0, none⟩)]) [ownB b (cellsB 75 [.string p.name, .int .i64 p.value, .slice p.A p.dues.length p.c])] Tryz.func24 rfl (by rw [Tryz.ntmps24]; simp) (fun g hg => by
    rw [List.mem_singleton.1 hg]
    exact ⟨hb, fun i hi => by have hi : i = b := hi; subst hi; exact (Array.getElem?_eq_some_iff.1 hb).1⟩) ?_
  refine cj_seq (cj_region ?_)
  refine oj_box rfl rfl rfl (fun b2 => ?_)
  refine oj_step (y_assign rfl) rfl rfl rfl ?_
  refine oj_nil ?_
  refine ej_th (cj_seq ?_)
  refine cj_regionG (gj_step (y_fa0 fa75_0 rfl) rfl rfl rfl (gj_step (y_load1 Tryz.isAgg9 rfl rfl) rfl rfl rfl (gj_step (y_fa0 fa75_0 rfl) rfl rfl rfl (gj_step (y_loadS1 Tryz.isAgg9 rfl rfl) rfl rfl rfl (gj_step (y_eqlS rfl rfl) rfl rfl rfl (gj_step (y_assign rfl) rfl rfl rfl (gj_nil ?_)))))))
  refine ej_th (cj_ret ?_)
  exact ej_ret1 rfl Tryz.results24 rfl (fun w' hp => ⟨rfl, hp.below⟩)

theorem k_po2 (x : PartV) (w : World) (hx : Rd w 2 encDu x.A x.dues) : Calls Tryz.prog 26 #[.agg #[.string x.name, .int .i64 x.value, .slice x.A x.dues.length x.c]] w (fun e w' => e = .returned (.bool (!(duesB x.dues))) ∧ Grow w w') := by
  refine enter_pure (args := [.agg #[.string x.name, .int .i64 x.value, .slice x.A x.dues.length x.c]]) [sl (fun b => b < w.heap.size) 2 encDu x.A x.dues] Tryz.func26 rfl (by rw [Tryz.ntmps26]; simp) (fun g hg => by simp at hg; subst hg; exact ⟨hx, fun _ h => h⟩) ?_
  refine cj_seq (cj_region ?_)
  refine oj_box rfl rfl rfl (fun b1 => ?_)
  refine oj_step (y_assign rfl) rfl rfl rfl ?_
  refine oj_nil ?_
  refine ej_th (cj_seq ?_)
  refine cj_regionG ?_
  refine gj_step (y_fa fa75_2 rfl) rfl rfl rfl (gj_step (y_load1 Tryz.isAgg73 rfl rfl) rfl rfl rfl (?_))
  refine gj_step (y_call Tryz.call27 rfl (fun w hp => k_dues x.dues x.A x.c w hp.rd)) rfl rfl rfl ?_
  refine gj_step (y_not rfl) rfl rfl rfl (gj_step (y_assign rfl) rfl rfl rfl (?_))
  refine gj_nil ?_
  refine ej_th (cj_ret ?_)
  exact ej_ret1 rfl Tryz.results26 rfl (fun w' hp => ⟨rfl, hp.below⟩)

set_option maxHeartbeats 1000000 in
theorem k_Portions (price : Int) (ps : List PartV) (A : Option Addr) (c : Nat) (w : World) (hl : Rd w 3 encPa A ps) (hcap : ps.length ≤ c) (hgp : ∀ p ∈ ps, GoodP w p) : Calls Tryz.prog 6 #[.int .i64 price, .slice A ps.length c] w (fun e w' => ∃ A c out, e = .returned (.tuple #[.slice A (out : List PorV).length c, .int .i64 (porE Pl.isW price ps)]) ∧ Grow w w' ∧ Res w w' 3 encPo A out ∧ (∀ r ∈ out, Res w w' 1 enInt r.A r.paid) ∧ out.map PorV.p = porL Pl.isW price ps) := by
  have hlen := hl.len
  refine enter_pure (args := [.int .i64 price, .slice A ps.length c]) [sl (fun b => b < w.heap.size) 3 encPa A ps] Tryz.func6 rfl (by rw [Tryz.ntmps6]; simp) (fun g hg => by simp at hg; subst hg; exact ⟨hl, fun _ h => h⟩) ?_
  refine cj_seq ?_
  refine cj_regionG (gj_step (y_assign rfl) rfl rfl rfl (gj_step (y_assign rfl) rfl rfl rfl (gj_nil ?_)))
  refine ej_th (cj_seq (cj_seq ?_))
  refine cj_regionG ?_
  refine gj_step (y_move rfl) rfl rfl rfl (?_)
  refine gj_step (y_call Tryz.call21 rfl (fun w hp => k_within _ _ _ w)) rfl rfl rfl ?_
  refine gj_step (y_not rfl) rfl rfl rfl (?_)
  refine gj_nil ?_
  refine ej_th ?_
  refine cj_cond rfl (fun h16 => ?_) (fun h16 => ?_)
  · have h16b := h16
    try simp only [sxb] at h16
    refine cj_seq ?_
    refine cj_regionG (gj_step (y_assign rfl) rfl rfl rfl (gj_step (y_assign rfl) rfl rfl rfl (gj_nil ?_)))
    refine ej_th (cj_ret (ej_then_ret ?_))
    have hE : porE Pl.isW price ps = 7 := by rw [porE, if_pos h16b]
    rw [hE]
    exact ej_ret2 rfl Tryz.results6 rfl rfl (fun w' hp => ⟨none, 0, [], rfl, hp.below, Res.nil, (fun r hr => by cases hr), by rw [porL_no (by rw [hE]; decide)]; rfl⟩)
  · have h16b := h16
    try simp only [sxb] at h16
    have hpr := btw_t (not_f h16b)
    refine cj_skip (ej_th (cj_seq (cj_seq ?_)))
    refine cj_regionG ?_
    refine gj_step (y_move rfl) rfl rfl rfl (gj_step (y_lenA Tryz.underlying22 rfl) rfl rfl rfl (?_))
    refine gj_step (y_call Tryz.call21 rfl (fun w hp => k_within _ _ _ w)) rfl rfl rfl ?_
    refine gj_step (y_not rfl) rfl rfl rfl (?_)
    refine gj_nil ?_
    refine ej_th ?_
    refine cj_cond rfl (fun h20 => ?_) (fun h20 => ?_)
    · have h20b := h20
      try simp only [sxb] at h20
      refine cj_seq ?_
      refine cj_regionG (gj_step (y_assign rfl) rfl rfl rfl (gj_step (y_assign rfl) rfl rfl rfl (gj_nil ?_)))
      refine ej_th (cj_ret (ej_then_ret ?_))
      have hE : porE Pl.isW price ps = 72 := by rw [porE, if_neg (by rw [h16b]; simp), if_pos h20b]
      rw [hE]
      exact ej_ret2 rfl Tryz.results6 rfl rfl (fun w' hp => ⟨none, 0, [], rfl, hp.below, Res.nil, (fun r hr => by cases hr), by rw [porL_no (by rw [hE]; decide)]; rfl⟩)
    · have h20b := h20
      try simp only [sxb] at h20
      have hl8 := btw_t (not_f h20b)
      refine cj_skip (ej_th (cj_seq ?_))
      refine cj_regionG (gj_step (y_assign rfl) rfl rfl rfl (gj_nil ?_))
      refine ej_th (cj_seq (cj_seq ?_))
      refine cj_regionG (gj_step (y_move rfl) rfl rfl rfl (gj_step (y_lenA Tryz.underlying22 rfl) rfl rfl rfl (gj_step (y_move rfl) rfl rfl rfl (gj_nil ?_))))
      refine ej_th (cj_block ?_)
      refine cj_ownNil 3 1 enInt ?_
      refine cj_lpi (X := Nat × Option Addr × Nat × List Int) [(0, _), (1, _), (21, _), (22, _)] (fun ⟨k, A1, c1, vs⟩ => k ≤ ps.length ∧ vs = (valsL ps).take k ∧ vs.length = k ∧ namB Pl.isW ps k = true) (fun ⟨k, A1, c1, vs⟩ => [(6, .slice A1 vs.length c1), (23, .int .i64 (k : Nat))]) (fun ⟨k, A1, c1, vs⟩ => [ow 3 1 enInt A1 c1 vs]) (fun ⟨k, A1, c1, vs⟩ => [sl (fun b => b < w.heap.size) 3 encPa A ps]) (fun ⟨k, A1, c1, vs⟩ => ps.length - k) (0, none, 0, []) (⟨Nat.zero_le _, rfl, rfl, rfl⟩) ⟨rfl, rfl, rfl, rfl, rfl, rfl, trivial⟩ ?_
      rintro ⟨k, A1, c1, vs⟩ ⟨hk, hvs, hvl0, hnm⟩
      dsimp only [List.cons_append, List.nil_append]
      refine cj_seq ?_
      refine cj_regionG (gj_step (y_lss rfl rfl) rfl rfl rfl (gj_nil ?_))
      refine ej_th (cj_seq ?_)
      refine cj_cond rfl (fun h24 => ?_) (fun h24 => ?_)
      · have h24b := h24
        try simp only [sxb] at h24
        obtain ⟨p, hx⟩ : ∃ p, ps[k]? = some p := ⟨_, List.getElem?_eq_getElem (by omega)⟩
        refine cj_skip (ej_th (cj_seq (cj_block (cj_seq (cj_region ?_)))))
        refine oj_step (y_move rfl) rfl rfl rfl ?_
        refine oj_step (y_ixR (reads_sl) Tryz.underlying22 Tryz.sizeOf75 rfl rfl (⟨by omega, by omega⟩)) rfl rfl rfl ?_
        refine oj_step (y_ldW (reads_sl) Tryz.isAgg75 Tryz.sizeOf75 rfl (hx) (fun _ => rfl)) rfl rfl rfl ?_
        refine oj_alloc Tryz.zeroValue75 rfl rfl (fun b8 => ?_)
        refine oj_step (y_assign rfl) rfl rfl rfl ?_
        refine oj_store rfl rfl rfl rfl Tryz.sizeOf75 rfl ?_
        refine oj_nil ?_
        refine ej_th (cj_seq (cj_region ?_))
        refine oj_step (y_move rfl) rfl rfl rfl ?_
        refine oj_step (y_fa fa75_1 rfl) rfl rfl rfl ?_
        refine oj_step (y_load1 Tryz.isAgg3 rfl rfl) rfl rfl rfl ?_
        refine oj_buildSlice (cs := [.int .i64 p.value]) [.int .i64 0] Tryz.underlying23 Tryz.sizeOf3 Tryz.zeroValue3 rfl rfl (by kernel_rfl) (by kernel_rfl) rfl (fun b31 => ?_)
        refine oj_append  el23 (fun _ => rfl) enInt_one rfl rfl rfl (reads_lit (sz := 1) [p.value] (fun _ => rfl) rfl) (by unfold maxLen; simp only [List.length_append, List.length_cons, List.length_nil]; omega) (by simp only [List.length_append, List.length_cons, List.length_nil]; omega) rfl (fun A32 c32 => ?_)
        refine oj_step (y_assign rfl) rfl rfl rfl ?_
        refine oj_nil ?_
        refine ej_th (cj_seq ?_)
        refine cj_regionG ?_
        refine gj_step (y_fa0 fa75_0 rfl) rfl rfl rfl (gj_step (y_load1 Tryz.isAgg9 rfl rfl) rfl rfl rfl (?_))
        refine gj_step (y_call Tryz.call22 rfl (fun w hp => Pl.k_IsWord p.name w (hgp p (List.mem_of_getElem? hx)).nm)) rfl rfl rfl ?_
        refine gj_step (y_not rfl) rfl rfl rfl (gj_step (y_move rfl) rfl rfl rfl (?_))
        refine gj_g 5 37 42 rfl rfl rfl rfl (fun hg37 => gj_yes rfl rfl rfl (y_move rfl) rfl rfl (gj_yes rfl rfl rfl (y_move rfl) rfl rfl (gj_yes rfl rfl rfl (y_sliceTo (xs := ps) k Tryz.underlying22 Tryz.sizeOf75 rfl rfl (by omega) (by omega)) rfl rfl (gj_yes rfl rfl rfl (y_makeFunc rfl rfl) rfl rfl (gj_yes rfl rfl rfl (y_call Tryz.call23 rfl (fun w hp => by
          have h := k_ContP (ps.take k) A c 24 #[] #[.pointer (some ⟨b8, 0, none⟩)] (fun o : PartV => o.name == p.name) w (Rd.takeL hp.rd k) Tryz.call24 (fun x hx w1 hg => k_po1 x p b8 w1 ((hp.grow hg).own1))
          exact h)) rfl rfl (gj_nil rfl)))))) ?_
        refine gj_step (y_or rfl rfl rfl) rfl rfl rfl (?_)
        refine gj_nil ?_
        refine ej_th ?_
        refine cj_cond rfl (fun h43 => ?_) (fun h43 => ?_)
        · have h43b := h43
          try simp only [sxb] at h43
          have hbad : namB Pl.isW ps ps.length = false := by
            rw [show ps.length = (k + 1) + (ps.length - (k + 1)) by omega]
            refine namB_no ?_ _
            rw [namB, hnm, hx]
            simp only [Bool.true_and]
            rw [Bool.or_eq_true] at h43b
            rcases h43b with h9 | h9
            · rw [not_t h9]; rfl
            · rw [h9]; simp
          refine cj_seq ?_
          refine cj_regionG (gj_step (y_assign rfl) rfl rfl rfl (gj_step (y_assign rfl) rfl rfl rfl (gj_nil ?_)))
          refine ej_th (cj_ret (ej_blk_ret (ej_then_ret (ej_then_ret (ej_blk_ret (ej_then_ret ?_))))))
          have hE : porE Pl.isW price ps = 72 := by rw [porE, if_neg (by rw [h16b]; simp), if_neg (by rw [h20b]; simp), if_pos (by rw [hbad]; rfl)]
          rw [hE]
          exact ej_ret2 rfl Tryz.results6 rfl rfl (fun w' hp => ⟨none, 0, [], rfl, hp.below, Res.nil, (fun r hr => by cases hr), by rw [porL_no (by rw [hE]; decide)]; rfl⟩)
        · have h43b := h43
          try simp only [sxb] at h43
          have hnm2 : namB Pl.isW ps (k + 1) = true := by
            rw [namB, hnm, hx]
            rw [Bool.or_eq_false_iff] at h43b
            simp only [Bool.true_and]
            rw [not_f h43b.1, h43b.2]; rfl
          refine cj_skip (ej_blk (ej_th ?_))
          refine cj_regionG (gj_step (y_add rfl rfl (by omega)) rfl rfl rfl (gj_step (y_move rfl) rfl rfl rfl (gj_nil ?_)))
          exact ej_nx (k + 1, A32, c32, vs ++ [p.value]) (by simp only; omega) ⟨by first | omega | (simp only; omega), by rw [hvs]; unfold valsL; rw [List.take_add_one, List.getElem?_map, hx]; rfl, by simp only [List.length_append, List.length_cons, List.length_nil]; omega, hnm2⟩ ⟨rfl, rfl, rfl, rfl, rfl, rfl, trivial⟩
      · have h24b := h24
        try simp only [sxb] at h24
        refine cj_exit (ej_then_exit (ej_then_exit (ej_blk_hit (ej_th (cj_seq (cj_seq ?_))))))
        have hke : k = ps.length := by omega
        subst hke
        have hvs2 : vs = valsL ps := by rw [hvs]; exact List.take_of_length_le (by simp [valsL])
        clear hvs
        have hvs := hvs2
        refine cj_regionG ?_
        refine gj_step (y_move rfl) rfl rfl rfl (?_)
        refine gj_step (y_call Tryz.call25 rfl (fun w hp => by
          have h := k_weights vs A1 c1 w (hp.rdO enInt_len (by unfold maxLen; omega))
          exact h)) rfl rfl rfl ?_
        refine gj_step (y_not rfl) rfl rfl rfl (?_)
        refine gj_nil ?_
        refine ej_th ?_
        refine cj_cond rfl (fun h47 => ?_) (fun h47 => ?_)
        · have h47b := h47
          try simp only [sxb] at h47
          have hw0 : weiB (valsL ps) = false := by rw [← hvs]; exact not_t h47b
          refine cj_seq ?_
          refine cj_regionG (gj_step (y_assign rfl) rfl rfl rfl (gj_step (y_assign rfl) rfl rfl rfl (gj_nil ?_)))
          refine ej_th (cj_ret (ej_then_ret ?_))
          have hE : porE Pl.isW price ps = 72 := by rw [porE, if_neg (by rw [h16b]; simp), if_neg (by rw [h20b]; simp), if_neg (by rw [hnm]; simp), if_pos (by rw [hw0]; rfl)]
          rw [hE]
          exact ej_ret2 rfl Tryz.results6 rfl rfl (fun w' hp => ⟨none, 0, [], rfl, hp.below, Res.nil, (fun r hr => by cases hr), by rw [porL_no (by rw [hE]; decide)]; rfl⟩)
        · have h47b := h47
          try simp only [sxb] at h47
          have hwt := wei_t (not_f h47b)
          have hw1 : weiB (valsL ps) = true := by rw [← hvs]; exact not_f h47b
          refine cj_skip (ej_th (cj_seq (cj_seq ?_)))
          refine cj_regionG ?_
          refine gj_step (y_move rfl) rfl rfl rfl (?_)
          refine gj_step (y_call Tryz.call23 rfl (fun w hp => k_ContP ps A c 26 #[] #[] (fun x => !(duesB x.dues)) w hp.rd Tryz.call26 (fun x hx w1 hg => k_po2 x w1 ((hgp x hx).rd.mono (grow_trans hp.below hg))))) rfl rfl rfl ?_
          refine gj_nil ?_
          refine ej_th ?_
          refine cj_cond rfl (fun h49 => ?_) (fun h49 => ?_)
          · have h49b := h49
            try simp only [sxb] at h49
            have hd0 : (ps.all fun p => duesB p.dues) = false := by
              have h9 := any_not (fun x : PartV => duesB x.dues) ps
              rw [h49b] at h9
              exact not_t h9.symm
            refine cj_seq ?_
            refine cj_regionG (gj_step (y_assign rfl) rfl rfl rfl (gj_step (y_assign rfl) rfl rfl rfl (gj_nil ?_)))
            refine ej_th (cj_ret (ej_then_ret ?_))
            have hE : porE Pl.isW price ps = 71 := by rw [porE, if_neg (by rw [h16b]; simp), if_neg (by rw [h20b]; simp), if_neg (by rw [hnm]; simp), if_neg (by rw [hw1]; simp), if_pos (by rw [hd0]; rfl)]
            rw [hE]
            exact ej_ret2 rfl Tryz.results6 rfl rfl (fun w' hp => ⟨none, 0, [], rfl, hp.below, Res.nil, (fun r hr => by cases hr), by rw [porL_no (by rw [hE]; decide)]; rfl⟩)
          · have h49b := h49
            try simp only [sxb] at h49
            have hd1 : (ps.all fun p => duesB p.dues) = true := by
              have h9 := any_not (fun x : PartV => duesB x.dues) ps
              rw [h49b] at h9
              exact not_f h9.symm
            have hdu : ∀ p ∈ ps, duesB p.dues = true := fun p hp => all_mem hd1 hp
            have hvn : ∀ x ∈ valsL ps, 0 ≤ x := fun x hx => (hwt.2.2.1 x (by rw [hvs]; exact hx)).1
            have hwp : 0 < sumI (valsL ps) := by rw [← hvs]; exact hwt.2.2.2.1
            have hsl := share_len hvn hpr.1 hwp
            have hss := share_sum hvn hpr.1 hwp
            have hsn := share_nn hvn hpr.1 hwp
            have hvl : (valsL ps).length = ps.length := List.length_map ..
            refine cj_skip (ej_th (cj_seq ?_))
            refine cj_regionG (gj_step (y_assign rfl) rfl rfl rfl (gj_nil ?_))
            refine ej_th (cj_seq (cj_seq (cj_region ?_)))
            refine oj_step (y_move rfl) rfl rfl rfl ?_
            refine oj_step (y_move rfl) rfl rfl rfl ?_
            refine oj_callS (fun A c => .slice A ((shareL (valsL ps) price)).length c) 1 enInt ((shareL (valsL ps) price)) Tryz.call28 rfl (fun w hp => by
              have h := k_share vs A1 c1 price w (hp.rdO enInt_len (by unfold maxLen; omega)) hwt.2.1 hwt.2.2.1 hwt.2.2.2.1 ⟨hpr.1, by omega⟩
              have h9 : shareL vs price = shareL (valsL ps) price := by rw [hvs]
              rw [h9] at h
              exact h) rfl (fun A52 c52 fp52 hfp52 => ?_)
            refine oj_step (y_lenA Tryz.underlying23 rfl) rfl rfl rfl ?_
            refine oj_step (y_move rfl) rfl rfl rfl ?_
            refine oj_nil ?_
            refine ej_th (cj_block ?_)
            refine cj_ownNil 32 3 encPo ?_
            refine cj_addS (rowsP (fun _ => False) []) (fun w hp => ⟨fun z hz => (by cases hz), fun i hi => hi.elim⟩) ?_
            refine cj_lpi (X := Nat × (Option Addr × Nat × List PorV) × (Nat → Prop)) [(1, _), (52, _), (53, _)] (fun ⟨k, ⟨A9, c9, out⟩, fp⟩ => k ≤ (shareL (valsL ps) price).length ∧ out.length = k ∧ out.map PorV.p = (portsL price ps).take k ∧ ∀ b, fp b → w.heap.size ≤ b) (fun ⟨k, ⟨A9, c9, out⟩, fp⟩ => [(9, .slice A9 out.length c9), (54, .int .i64 (k : Nat))]) (fun ⟨k, ⟨A9, c9, out⟩, fp⟩ => [ow 32 3 encPo A9 c9 out]) (fun ⟨k, ⟨A9, c9, out⟩, fp⟩ => [rowsP fp out, sl fp52 1 enInt A52 (shareL (valsL ps) price), sl (fun b => b < w.heap.size) 3 encPa A ps]) (fun ⟨k, ⟨A9, c9, out⟩, fp⟩ => (shareL (valsL ps) price).length - k) (0, (none, 0, []), fun _ => False) (⟨Nat.zero_le _, rfl, rfl, fun b hb => hb.elim⟩) ⟨rfl, rfl, rfl, rfl, rfl, trivial⟩ ?_
            rintro ⟨k, ⟨A9, c9, out⟩, fp⟩ ⟨hk, hol, hom, hfp⟩
            dsimp only [List.cons_append, List.nil_append]
            refine cj_seq ?_
            refine cj_regionG (gj_step (y_lss rfl rfl) rfl rfl rfl (gj_nil ?_))
            refine ej_th (cj_seq ?_)
            refine cj_cond rfl (fun h55 => ?_) (fun h55 => ?_)
            · have h55b := h55
              try simp only [sxb] at h55
              obtain ⟨n, hn⟩ : ∃ n, (shareL (valsL ps) price)[k]? = some n := ⟨_, List.getElem?_eq_getElem (by omega)⟩
              obtain ⟨p, hx2⟩ : ∃ p, ps[k]? = some p := ⟨_, List.getElem?_eq_getElem (by omega)⟩
              have hpm := List.mem_of_getElem? hx2
              have hnn : ∀ x ∈ (shareL (valsL ps) price), 0 ≤ x := fun x hx => by
                obtain ⟨j, hj, rfl⟩ := List.mem_iff_getElem.1 hx
                have h7 := hsn j
                rwa [gd_lt hj] at h7
              have hnb : 0 ≤ n ∧ n ≤ 67108864 := ⟨hnn n (List.mem_of_getElem? hn), by have h9 := sumI_mem_le hnn n (List.mem_of_getElem? hn); omega⟩
              refine cj_skip (ej_th (cj_seq (cj_block (cj_seq ?_))))
              refine cj_regionG (gj_step (y_move rfl) rfl rfl rfl (gj_step (y_ixR (reads_sl (xs := (shareL (valsL ps) price))) Tryz.underlying23 Tryz.sizeOf3 rfl rfl ⟨by omega, by omega⟩) rfl rfl rfl (gj_step (y_ld0 (reads_sl) Tryz.isAgg3 rfl (hn) rfl) rfl rfl rfl (gj_step (y_assign rfl) rfl rfl rfl (gj_step (y_assign rfl) rfl rfl rfl (gj_nil ?_))))))
              refine ej_th (cj_seq (cj_region ?_))
              refine oj_step (y_move rfl) rfl rfl rfl ?_
              refine oj_step (y_move rfl) rfl rfl rfl ?_
              refine oj_step (y_ixR (reads_sl) Tryz.underlying22 Tryz.sizeOf75 rfl rfl (⟨by omega, by omega⟩)) rfl rfl rfl ?_
              refine oj_step (y_faE fa75_2 rfl) rfl rfl rfl ?_
              refine oj_step (y_ld1 (reads_sl) Tryz.isAgg73 rfl (hx2) rfl) rfl rfl rfl ?_
              refine oj_step (y_move rfl) rfl rfl rfl ?_
              refine oj_callS (fun A c => .tuple #[.slice A (spreadL p.dues n).1.length c, .int .i64 (spreadL p.dues n).2]) 1 enInt (spreadL p.dues n).1 Tryz.call29 rfl (fun w hp => k_spread p.dues p.A p.c n w ((hgp p hpm).rd.mono hp.below) (hdu p hpm) hnb) rfl (fun A66 c66 fp66 hfp66 => ?_)
              refine oj_step (y_move rfl) rfl rfl rfl ?_
              refine oj_step (y_extract rfl rfl) rfl rfl rfl ?_
              refine oj_step (y_extract rfl rfl) rfl rfl rfl ?_
              refine oj_step (y_assign rfl) rfl rfl rfl ?_
              refine oj_step (y_assign rfl) rfl rfl rfl ?_
              refine oj_nil ?_
              refine ej_th (cj_region ?_)
              refine oj_step (y_move rfl) rfl rfl rfl ?_
              refine oj_step (y_move rfl) rfl rfl rfl ?_
              refine oj_step (y_move rfl) rfl rfl rfl ?_
              refine oj_step (y_move rfl) rfl rfl rfl ?_
              refine oj_step (y_build (cs := [.int .i64 n, .slice A66 (spreadL p.dues n).1.length c66, .int .i64 (spreadL p.dues n).2]) st32 rfl (by kernel_rfl)) rfl rfl rfl ?_
              refine oj_buildSlice (cs := [.int .i64 n, .slice A66 (spreadL p.dues n).1.length c66, .int .i64 (spreadL p.dues n).2]) [.int .i64 0, .slice none 0 0, .int .i64 0] Tryz.underlying26 Tryz.sizeOf32 Tryz.zeroValue32 rfl rfl (by kernel_rfl) (by kernel_rfl) rfl (fun b74 => ?_)
              refine oj_append  el26 (fun _ => rfl) encPo_one rfl rfl rfl (reads_lit (sz := 3) [(⟨n, A66, c66, (spreadL p.dues n).1, (spreadL p.dues n).2⟩ : PorV)] (fun _ => rfl) rfl) (by unfold maxLen; simp only [List.length_append, List.length_cons, List.length_nil]; omega) (by simp only [List.length_append, List.length_cons, List.length_nil]; omega) rfl (fun A75 c75 => ?_)
              refine oj_step (y_assign rfl) rfl rfl rfl ?_
              refine oj_nil ?_
              refine ej_blk (ej_th ?_)
              refine cj_regionG (gj_step (y_add rfl rfl (by omega)) rfl rfl rfl (gj_step (y_move rfl) rfl rfl rfl (gj_nil ?_)))
              refine ej_addS (rowsP (fun i => fp i ∨ fp66 i) (out ++ [(⟨n, A66, c66, (spreadL p.dues n).1, (spreadL p.dues n).2⟩ : PorV)])) (fun w1 hp => rowsP_snoc hp (.tail _ (.head _)) (.head _)) ?_
              exact ej_nx (k + 1, (A75, c75, out ++ [(⟨n, A66, c66, (spreadL p.dues n).1, (spreadL p.dues n).2⟩ : PorV)]), fun i => fp i ∨ fp66 i) (by simp only; omega) ⟨by first | omega | (simp only; omega), by simp only [List.length_append, List.length_cons, List.length_nil]; omega, by rw [ports_take hx2 hn, List.map_append, hom]; rfl, fun b hb => hb.elim (hfp b) (hfp66 b)⟩ ⟨rfl, rfl, rfl, rfl, rfl, trivial⟩
            · have h55b := h55
              try simp only [sxb] at h55
              refine cj_exit (ej_then_exit (ej_then_exit (ej_blk_hit (ej_th (cj_seq ?_)))))
              refine cj_regionG (gj_step (y_move rfl) rfl rfl rfl (gj_step (y_assign rfl) rfl rfl rfl (gj_step (y_assign rfl) rfl rfl rfl (gj_nil ?_))))
              refine ej_th (cj_ret ?_)
              have hE : porE Pl.isW price ps = 0 := by rw [porE, if_neg (by rw [h16b]; simp), if_neg (by rw [h20b]; simp), if_neg (by rw [hnm]; simp), if_neg (by rw [hw1]; simp), if_neg (by rw [hd1]; simp)]
              rw [hE]
              exact ej_ret2 rfl Tryz.results6 rfl rfl (fun w' hp => ⟨A9, c9, out, rfl, hp.below, hp.res (fun _ => rfl) (by unfold maxLen; omega), (fun r hr => sl_fp ((hp.shared _ (List.mem_cons_self ..)).1 r hr) (fun b hb => ⟨hfp b hb, (hp.shared _ (List.mem_cons_self ..)).2.1 b hb⟩)), by rw [hom, porL, if_pos hE, List.take_of_length_le (by unfold portsL; rw [List.length_zipWith]; omega)]⟩)

end Go.Proofs.YtppfniekcgnmjaaGreat.Pu
namespace Go.Proofs.YtppfniekcgnmjaaGreat.To
open Go.Sx Go.RowKit
set_option maxRecDepth 20000
theorem fa25_0 : FieldIs Tryz.prog 25 0 0 1 false := ⟨⟨_, _, Tryz.underlying25, rfl, rfl, Tryz.sizeOf23, Tryz.isAgg23, by decide⟩⟩
theorem fa25_1 : FieldIs Tryz.prog 25 1 1 1 false := ⟨⟨_, _, Tryz.underlying25, rfl, rfl, Tryz.sizeOf23, Tryz.isAgg23, by decide⟩⟩
theorem fa32_0 : FieldIs Tryz.prog 32 0 0 1 false := ⟨⟨_, _, Tryz.underlying32, rfl, rfl, Tryz.sizeOf3, Tryz.isAgg3, by decide⟩⟩
theorem fa32_1 : FieldIs Tryz.prog 32 1 1 1 false := ⟨⟨_, _, Tryz.underlying32, rfl, rfl, Tryz.sizeOf23, Tryz.isAgg23, by decide⟩⟩
theorem fa32_2 : FieldIs Tryz.prog 32 2 2 1 false := ⟨⟨_, _, Tryz.underlying32, rfl, rfl, Tryz.sizeOf3, Tryz.isAgg3, by decide⟩⟩
end Go.Proofs.YtppfniekcgnmjaaGreat.To
namespace Go.Proofs.YtppfniekcgnmjaaGreat.To
open Go.Sx Go.RowKit Um
set_option maxRecDepth 20000
theorem k_Ring (n m : Int) (w : World) (hm : m ≤ 4611686018427387904) : Calls Tryz.prog 9 #[.int .i64 n, .int .i64 m] w (fun e w' => e = .returned (.int .i64 (ringI n m)) ∧ Grow w w') := by
  refine enter_pure (args := [.int .i64 n, .int .i64 m]) [] Tryz.func9 rfl (by rw [Tryz.ntmps9]; simp) (by simp) ?_
  refine cj_seq ?_
  refine cj_regionG (gj_step (y_assign rfl) rfl rfl rfl (gj_nil ?_))
  refine ej_th (cj_seq (cj_seq ?_))
  refine cj_regionG (gj_step (y_move rfl) rfl rfl rfl (gj_step (y_leq rfl rfl) rfl rfl rfl (gj_nil ?_)))
  refine ej_th ?_
  refine cj_cond rfl (fun h6 => ?_) (fun h6 => ?_)
  · have h6b := h6
    try simp only [sxb] at h6
    refine cj_seq ?_
    refine cj_regionG (gj_step (y_assign rfl) rfl rfl rfl (gj_nil ?_))
    refine ej_th (cj_ret (ej_then_ret ?_))
    refine ej_ret1 rfl Tryz.results9 rfl (fun w' hp => ⟨?_, hp.below⟩)
    rw [ringI, if_pos h6]
  · have h6b := h6
    try simp only [sxb] at h6
    refine cj_skip (ej_th (cj_seq ?_))
    refine cj_regionG (gj_step (y_move rfl) rfl rfl rfl (gj_step (y_move rfl) rfl rfl rfl (gj_step (y_remw rfl rfl (by omega)) rfl rfl rfl (gj_step (y_move rfl) rfl rfl rfl (gj_step (y_add rfl rfl (by have h1 := Int.tmod_lt_of_pos n (show 0 < m by omega); have h2 := Int.lt_tmod_of_pos n (show 0 < m by omega); omega)) rfl rfl rfl (gj_step (y_move rfl) rfl rfl rfl (gj_step (y_remw rfl rfl (by omega)) rfl rfl rfl (gj_step (y_assign rfl) rfl rfl rfl (gj_nil ?_)))))))))
    refine ej_th (cj_ret ?_)
    refine ej_ret1 rfl Tryz.results9 rfl (fun w' hp => ⟨?_, hp.below⟩)
    rw [ringI, if_neg (by omega)]

theorem k_From (lo n hi : Int) (w : World)  : Calls Tryz.prog 11 #[.int .i64 lo, .int .i64 n, .int .i64 hi] w (fun e w' => e = .returned (.bool (btw lo n hi)) ∧ Grow w w') := by
  refine enter_pure (args := [.int .i64 lo, .int .i64 n, .int .i64 hi]) [] Tryz.func11 rfl (by rw [Tryz.ntmps11]; simp) (by simp) ?_
  refine cj_seq ?_
  refine cj_regionG (gj_step (y_assign rfl) rfl rfl rfl (gj_nil ?_))
  refine ej_th (cj_seq ?_)
  refine cj_regionG (gj_step (y_move rfl) rfl rfl rfl (gj_step (y_move rfl) rfl rfl rfl (gj_step (y_leq rfl rfl) rfl rfl rfl (gj_step (y_move rfl) rfl rfl rfl (gj_g 3 10 13 rfl rfl rfl rfl (fun hg10 => gj_yes rfl rfl rfl (y_move rfl) rfl rfl (gj_yes rfl rfl rfl (y_move rfl) rfl rfl (gj_yes rfl rfl rfl (y_leq rfl rfl) rfl rfl (gj_nil rfl)))) (gj_step (y_and rfl rfl rfl) rfl rfl rfl (gj_step (y_assign rfl) rfl rfl rfl (gj_nil ?_))))))))
  refine ej_th (cj_ret ?_)
  exact ej_ret1 rfl Tryz.results11 rfl (fun w' hp => ⟨rfl, hp.below⟩)

theorem k_Sum (l : List Int) (A : Option Addr) (c : Nat) (w : World) (hl : Rd w 1 enInt A l) (hn : ∀ x ∈ l, 0 ≤ x) (hs : sumI l ≤ 4611686018427387904) : Calls Tryz.prog 8 #[.slice A l.length c] w (fun e w' => e = .returned (.int .i64 (sumI l)) ∧ Grow w w') := by
  have hlen := hl.len
  refine enter_pure (args := [.slice A l.length c]) [sl (fun b => b < w.heap.size) 1 enInt A l] Tryz.func8 rfl (by rw [Tryz.ntmps8]; simp) (fun g hg => by simp at hg; subst hg; exact ⟨hl, fun _ h => h⟩) ?_
  refine cj_seq ?_
  refine cj_regionG (gj_step (y_assign rfl) rfl rfl rfl (gj_nil ?_))
  refine ej_th (cj_seq ?_)
  refine cj_regionG (gj_step (y_assign rfl) rfl rfl rfl (gj_nil ?_))
  refine ej_th (cj_seq (cj_seq ?_))
  refine cj_regionG (gj_step (y_assign rfl) rfl rfl rfl (gj_nil ?_))
  refine ej_th (cj_block ?_)
  refine cj_lpic (X := Nat) [(0, _), (2, _)] (fun k => k ≤ l.length) (fun k => [(3, .int .i64 (sumI (l.take k))), (4, .int .i64 (k : Nat))]) (fun k => l.length - k) 0 (Nat.zero_le _) ⟨rfl, rfl, rfl, rfl, trivial⟩ ?_
  rintro k hk
  dsimp only [List.cons_append, List.nil_append]
  refine cj_seq (cj_seq ?_)
  refine cj_regionG (gj_step (y_move rfl) rfl rfl rfl (gj_step (y_move rfl) rfl rfl rfl (gj_step (y_lenA Tryz.underlying23 rfl) rfl rfl rfl (gj_step (y_lss rfl rfl) rfl rfl rfl (gj_nil ?_)))))
  refine ej_th ?_
  refine cj_cond rfl (fun h8 => ?_) (fun h8 => ?_)
  · have h8b := h8
    try simp only [sxb] at h8
    obtain ⟨x, hx⟩ : ∃ x, l[k]? = some x := ⟨_, List.getElem?_eq_getElem (by omega)⟩
    have hx0 := hn x (List.mem_of_getElem? hx)
    have hsk := Pu.sumI_take_le hn (k + 1)
    rw [sumI_take_get hx] at hsk
    have hsk0 := Pu.sumI_take_le hn k
    refine cj_skip (ej_th (cj_seq (cj_block ?_)))
    refine cj_regionG (gj_step (y_move rfl) rfl rfl rfl (gj_step (y_move rfl) rfl rfl rfl (gj_step (y_move rfl) rfl rfl rfl (gj_step (y_ixR (reads_sl) Tryz.underlying23 Tryz.sizeOf3 rfl rfl (⟨by omega, by omega⟩)) rfl rfl rfl (gj_step (y_ld0 (reads_sl) Tryz.isAgg3 rfl (hx) rfl) rfl rfl rfl (gj_step (y_add rfl rfl (by omega)) rfl rfl rfl (gj_step (y_assign rfl) rfl rfl rfl (gj_nil ?_))))))))
    refine ej_blk (ej_th ?_)
    refine cj_regionG (gj_step (y_move rfl) rfl rfl rfl (gj_step (y_add rfl rfl (by omega)) rfl rfl rfl (gj_step (y_assign rfl) rfl rfl rfl (gj_nil ?_))))
    rw [← sumI_take_get hx]
    exact ej_nx (k + 1) (by omega) (by omega) ⟨rfl, rfl, rfl, rfl, trivial⟩
  · have h8b := h8
    try simp only [sxb] at h8
    refine cj_exit (ej_then_exit (ej_then_exit (ej_blk_hit (ej_th (cj_seq ?_)))))
    refine cj_regionG (gj_step (y_move rfl) rfl rfl rfl (gj_step (y_assign rfl) rfl rfl rfl (gj_nil ?_)))
    refine ej_th (cj_ret ?_)
    refine ej_ret1 rfl Tryz.results8 rfl (fun w' hp => ⟨?_, hp.below⟩)
    rw [List.take_of_length_le (by omega)]

set_option maxHeartbeats 4000000 in
theorem k_TopPaidOut (price : Int) (ps : List Pu.PartV) (Ap : Option Addr) (cp : Nat) (cs hv : List Int) (Ac Ah : Option Addr) (cc ch : Nat) (n : Int) (w : World) (hps : Rd w 3 Pu.encPa Ap ps) (hcap : ps.length ≤ cp) (hgp : ∀ p ∈ ps, Pu.GoodP w p) (hc : Rd w 1 enInt Ac cs) (hh : Rd w 1 enInt Ah hv) : Calls Tryz.prog 3 #[.int .i64 price, .slice Ap ps.length cp, .agg #[.slice Ac cs.length cc, .slice Ah hv.length ch], .int .i64 n] w (fun e w' => e = .returned (.bool true) ∧ Grow w w') := by
  refine enter_pure (args := [.int .i64 price, .slice Ap ps.length cp, .agg #[.slice Ac cs.length cc, .slice Ah hv.length ch], .int .i64 n]) [sl (fun b => b < w.heap.size) 3 Pu.encPa Ap ps, sl (fun b => b < w.heap.size) 1 enInt Ac cs, sl (fun b => b < w.heap.size) 1 enInt Ah hv] Tryz.func3 rfl (by rw [Tryz.ntmps3]; simp) (fun g hg => by simp at hg; rcases hg with rfl | rfl | rfl; exact ⟨hps, fun _ h => h⟩; exact ⟨hc, fun _ h => h⟩; exact ⟨hh, fun _ h => h⟩) ?_
  refine cj_seq (cj_region ?_)
  refine oj_box rfl rfl rfl (fun b6 => ?_)
  refine oj_step (y_assign rfl) rfl rfl rfl ?_
  refine oj_nil ?_
  refine ej_th (cj_seq (cj_region ?_))
  refine oj_step (y_move rfl) rfl rfl rfl ?_
  refine oj_step (y_move rfl) rfl rfl rfl ?_
  refine oj_callR (X := { z : Option Addr × Nat × List Pu.PorV × Nat × Nat // z.2.2.1.map Pu.PorV.p = Pu.porL Pl.isW price ps }) (fun z => .tuple #[.slice z.1.1 z.1.2.2.1.length z.1.2.1, .int .i64 (Pu.porE Pl.isW price ps)]) (fun z => [sl (fun b => z.1.2.2.2.1 ≤ b ∧ b < z.1.2.2.2.2) 3 Pu.encPo z.1.1 z.1.2.2.1, Pu.rowsP (fun b => z.1.2.2.2.1 ≤ b ∧ b < z.1.2.2.2.2) z.1.2.2.1]) Tryz.call6 rfl (fun w1 hp => (Pu.k_Portions price ps Ap cp w1 hp.rd hcap (fun p h => (hgp p h).mono hp.below)).mono fun e w2 ⟨A, c, out, h1, h2, h3, h4, h5⟩ => ⟨⟨(A, c, out, w1.heap.size, w2.heap.size), h5⟩, h1, h2, fun g hg => by
    simp only [List.mem_cons, List.mem_nil_iff, or_false] at hg
    rcases hg with rfl | rfl
    · exact ⟨h3, fun b hb => .inr hb⟩
    · exact ⟨h4, fun b hb => .inr hb⟩⟩) rfl ?_
  rintro ⟨⟨A20, c20, o, n20, m20⟩, ho⟩
  have ho : o.map Pu.PorV.p = Pu.porL Pl.isW price ps := ho
  dsimp only [List.cons_append, List.nil_append]
  refine oj_step (y_move rfl) rfl rfl rfl ?_
  refine oj_step (y_extract rfl rfl) rfl rfl rfl ?_
  refine oj_step (y_extract rfl rfl) rfl rfl rfl ?_
  refine oj_step (y_assign rfl) rfl rfl rfl ?_
  refine oj_step (y_assign rfl) rfl rfl rfl ?_
  refine oj_nil ?_
  refine ej_th (cj_seq (cj_seq ?_))
  refine cj_regionG (gj_step (y_move rfl) rfl rfl rfl (gj_step (y_neq rfl rfl) rfl rfl rfl (gj_nil ?_)))
  refine ej_th ?_
  refine cj_cond rfl (fun h24 => ?_) (fun h24 => ?_)
  · have h24b := h24
    try simp only [sxb] at h24
    have hz0 : o = [] := by
      have h1 := Pu.porL_no (isW := Pl.isW) (price := price) (ps := ps) h24
      rw [← ho] at h1
      exact List.map_eq_nil_iff.1 h1
    refine cj_seq ?_
    refine cj_regionG ?_
    refine gj_step (y_move rfl) rfl rfl rfl (gj_step (y_lenA Tryz.underlying26 rfl) rfl rfl rfl (gj_step (y_eql rfl rfl) rfl rfl rfl (gj_step (y_move rfl) rfl rfl rfl (?_))))
    refine gj_g 1 28 29 rfl rfl rfl rfl (fun hg28 => gj_yes rfl rfl rfl (y_call Tryz.call7 rfl (fun w hp => k_paid08 w)) rfl rfl (gj_nil rfl)) ?_
    refine gj_step (y_and rfl rfl rfl) rfl rfl rfl (gj_step (y_assign rfl) rfl rfl rfl (?_))
    refine gj_nil ?_
    refine ej_th (cj_ret (ej_then_ret ?_))
    refine ej_ret1 rfl Tryz.results3 rfl (fun w' hp => ⟨congrArg (fun b => Ending.returned (.bool b)) (?_ : _ = true), hp.below⟩)
    rw [hz0]; rfl
  · have h24b := h24
    try simp only [sxb] at h24
    have hE0 : Pu.porE Pl.isW price ps = 0 := by omega
    obtain ⟨hpb, hp1, hp8⟩ := porE_bd hE0
    obtain ⟨hf1, hf2, hf3⟩ := por_fair hE0
    have hol : o.length = ps.length := by rw [← hf1, ← ho, List.length_map]
    have hsu : sumI (o.map fun y : Pu.PorV => y.price) = price := by rw [← hf2, ← ho, List.map_map]; rfl
    have hfo : ∀ y ∈ o, 0 ≤ y.price ∧ 0 ≤ y.left ∧ (∀ v ∈ y.paid, 0 ≤ v) ∧ sumI y.paid + y.left = y.price := fun y hy => hf3 y.p (by rw [← ho]; exact List.mem_map_of_mem hy)
    have hnn : ∀ v ∈ (o.map fun y : Pu.PorV => y.price), 0 ≤ v := fun v hv => by
      obtain ⟨y, hy, rfl⟩ := List.mem_map.1 hv
      exact (hfo y hy).1
    refine cj_skip (ej_th (cj_seq ?_))
    refine cj_regionG (gj_step (y_assign rfl) rfl rfl rfl (gj_nil ?_))
    refine ej_th (cj_seq (cj_seq ?_))
    refine cj_regionG (gj_step (y_assign rfl) rfl rfl rfl (gj_nil ?_))
    refine ej_th (cj_block ?_)
    refine cj_lpi (X := Nat) [(0, _), (3, _), (6, _), (9, _), (10, _)] (fun i => i ≤ o.length) (fun i => [(12, .int .i64 (i : Nat)), (11, .int .i64 (sumI ((o.map fun y : Pu.PorV => y.price).take i)))]) (fun i => [ownB b6 (cellsB 25 [.slice Ac cs.length cc, .slice Ah hv.length ch])]) (fun i => [sl (fun b => n20 ≤ b ∧ b < m20) 3 Pu.encPo A20 o, Pu.rowsP (fun b => n20 ≤ b ∧ b < m20) o, sl (fun b => b < w.heap.size) 3 Pu.encPa Ap ps, sl (fun b => b < w.heap.size) 1 enInt Ac cs, sl (fun b => b < w.heap.size) 1 enInt Ah hv]) (fun i => o.length - i) 0 (Nat.zero_le _) ⟨rfl, rfl, rfl, rfl, rfl, rfl, rfl, trivial⟩ ?_
    rintro i hi
    dsimp only [List.cons_append, List.nil_append]
    refine cj_seq (cj_seq ?_)
    refine cj_regionG (gj_step (y_move rfl) rfl rfl rfl (gj_step (y_move rfl) rfl rfl rfl (gj_step (y_lenA Tryz.underlying26 rfl) rfl rfl rfl (gj_step (y_lss rfl rfl) rfl rfl rfl (gj_nil ?_)))))
    refine ej_th ?_
    refine cj_cond rfl (fun h34 => ?_) (fun h34 => ?_)
    · have h34b := h34
      try simp only [sxb] at h34
      obtain ⟨y, hy⟩ : ∃ y, o[i]? = some y := ⟨_, List.getElem?_eq_getElem (by omega)⟩
      obtain ⟨hy1, hy2, hy3, hy4⟩ := hfo y (List.mem_of_getElem? hy)
      have hy0 := sumI_nonneg hy3
      have hyp : (o.map fun y : Pu.PorV => y.price)[i]? = some y.price := by rw [List.getElem?_map, hy]; rfl
      have hst := sumI_take_get hyp
      have hs1 := Pu.sumI_take_le hnn (i + 1)
      have hs0 := Pu.sumI_take_le hnn i
      refine cj_addS (sl (fun b => n20 ≤ b ∧ b < m20) 1 enInt y.A y.paid) (fun w1 hp => ⟨(hp.shared (Pu.rowsP (fun b => n20 ≤ b ∧ b < m20) o) (.tail _ (.head _))).1 y (List.mem_of_getElem? hy), fun b hb => ⟨(hp.shared (Pu.rowsP (fun b => n20 ≤ b ∧ b < m20) o) (.tail _ (.head _))).2.1 b hb, fun g hg => (hp.shared (Pu.rowsP (fun b => n20 ≤ b ∧ b < m20) o) (.tail _ (.head _))).2.2 g hg b hb⟩⟩) ?_
      refine cj_skip (ej_th (cj_seq (cj_block (cj_seq ?_))))
      refine cj_draw (by kernel_rfl) (by kernel_rfl) ?_
      refine gj_step (y_move rfl) rfl rfl rfl (gj_step (y_move rfl) rfl rfl rfl (gj_step (y_move rfl) rfl rfl rfl (gj_step (y_ixR (reads_sl) Tryz.underlying26 Tryz.sizeOf32 rfl rfl (⟨by omega, by omega⟩)) rfl rfl rfl (gj_step (y_faE fa32_2 rfl) rfl rfl rfl (gj_step (y_ld1 (reads_sl) Tryz.isAgg3 rfl (hy) rfl) rfl rfl rfl (gj_step (y_move rfl) rfl rfl rfl (gj_step (y_move rfl) rfl rfl rfl (gj_step (y_ixR (reads_sl) Tryz.underlying26 Tryz.sizeOf32 rfl rfl (⟨by omega, by omega⟩)) rfl rfl rfl (gj_step (y_faE fa32_1 rfl) rfl rfl rfl (gj_step (y_ld1 (reads_sl) Tryz.isAgg23 rfl (hy) rfl) rfl rfl rfl (?_)))))))))))
      refine gj_step (y_call Tryz.call8 rfl (fun w hp => k_Sum y.paid y.A y.c w hp.rd hy3 (by omega))) rfl rfl rfl ?_
      refine gj_step (y_add rfl rfl (by omega)) rfl rfl rfl (gj_step (y_add rfl rfl (by omega)) rfl rfl rfl (gj_step (y_assign rfl) rfl rfl rfl (?_)))
      refine gj_nil ?_
      refine ej_th (cj_seq ?_)
      refine cj_draw (by kernel_rfl) (by kernel_rfl) ?_
      refine gj_step (y_move rfl) rfl rfl rfl (gj_step (y_move rfl) rfl rfl rfl (gj_step (y_ixR (reads_sl) Tryz.underlying26 Tryz.sizeOf32 rfl rfl (⟨by omega, by omega⟩)) rfl rfl rfl (gj_step (y_faE fa32_0 rfl) rfl rfl rfl (gj_step (y_ld1 (reads_sl) Tryz.isAgg3 rfl (hy) rfl) rfl rfl rfl (gj_step (y_move rfl) rfl rfl rfl (gj_step (y_move rfl) rfl rfl rfl (gj_step (y_ixR (reads_sl) Tryz.underlying26 Tryz.sizeOf32 rfl rfl (⟨by omega, by omega⟩)) rfl rfl rfl (gj_step (y_faE fa32_2 rfl) rfl rfl rfl (gj_step (y_ld1 (reads_sl) Tryz.isAgg3 rfl (hy) rfl) rfl rfl rfl (gj_step (y_move rfl) rfl rfl rfl (gj_step (y_move rfl) rfl rfl rfl (gj_step (y_ixR (reads_sl) Tryz.underlying26 Tryz.sizeOf32 rfl rfl (⟨by omega, by omega⟩)) rfl rfl rfl (gj_step (y_faE fa32_1 rfl) rfl rfl rfl (gj_step (y_ld1 (reads_sl) Tryz.isAgg23 rfl (hy) rfl) rfl rfl rfl (?_)))))))))))))))
      refine gj_step (y_call Tryz.call8 rfl (fun w hp => k_Sum y.paid y.A y.c w hp.rd hy3 (by omega))) rfl rfl rfl ?_
      refine gj_step (y_add rfl rfl (by omega)) rfl rfl rfl (gj_step (y_neq rfl rfl) rfl rfl rfl (gj_step (y_move rfl) rfl rfl rfl (?_)))
      refine gj_g 6 69 75 rfl rfl rfl rfl (fun hg69 => gj_yes rfl rfl rfl (y_move rfl) rfl rfl (gj_yes rfl rfl rfl (y_move rfl) rfl rfl (gj_yes rfl rfl rfl (y_ixR (reads_sl) Tryz.underlying26 Tryz.sizeOf32 rfl rfl (⟨by omega, by omega⟩)) rfl rfl (gj_yes rfl rfl rfl (y_faE fa32_2 rfl) rfl rfl (gj_yes rfl rfl rfl (y_ld1 (reads_sl) Tryz.isAgg3 rfl (hy) rfl) rfl rfl (gj_yes rfl rfl rfl (y_lss rfl rfl) rfl rfl (gj_nil rfl))))))) ?_
      refine gj_step (y_or rfl rfl rfl) rfl rfl rfl (?_)
      refine gj_nil ?_
      refine ej_th ?_
      refine cj_cond rfl (fun h76 => ?_) (fun h76 => ?_)
      · exfalso
        simp only [Bool.or_eq_true, bne_iff_ne, ne_eq, decide_eq_true_eq] at h76
        omega
      · have h76b := h76
        try simp only [sxb] at h76
        refine cj_skip (ej_blk (ej_th ?_))
        refine cj_regionG (gj_step (y_move rfl) rfl rfl rfl (gj_step (y_add rfl rfl (by omega)) rfl rfl rfl (gj_step (y_assign rfl) rfl rfl rfl (gj_nil ?_))))
        rw [show sumI ((o.map fun y : Pu.PorV => y.price).take i) + (y.left + sumI y.paid) = sumI ((o.map fun y : Pu.PorV => y.price).take (i + 1)) by rw [hst]; omega]
        exact ej_nx (i + 1) (by omega) (by omega) ⟨rfl, rfl, rfl, rfl, rfl, rfl, rfl, trivial⟩
    · have h34b := h34
      try simp only [sxb] at h34
      have hst : sumI ((o.map fun y : Pu.PorV => y.price).take i) = price := by rw [List.take_of_length_le (by rw [List.length_map]; omega), hsu]
      refine cj_exit (ej_then_exit (ej_then_exit (ej_blk_hit (ej_th (cj_seq (cj_seq ?_))))))
      refine cj_regionG (gj_step (y_move rfl) rfl rfl rfl (gj_step (y_move rfl) rfl rfl rfl (gj_step (y_neq rfl rfl) rfl rfl rfl (gj_step (y_move rfl) rfl rfl rfl (gj_g 3 80 83 rfl rfl rfl rfl (fun hg80 => gj_yes rfl rfl rfl (y_move rfl) rfl rfl (gj_yes rfl rfl rfl (y_lenA Tryz.underlying26 rfl) rfl rfl (gj_yes rfl rfl rfl (y_eql rfl rfl) rfl rfl (gj_nil rfl)))) (gj_step (y_or rfl rfl rfl) rfl rfl rfl (gj_nil ?_)))))))
      refine ej_th ?_
      refine cj_cond rfl (fun h84 => ?_) (fun h84 => ?_)
      · exfalso
        simp only [Bool.or_eq_true, bne_iff_ne, ne_eq, beq_iff_eq] at h84
        omega
      · have h84b := h84
        try simp only [sxb] at h84
        refine cj_skip (ej_th (cj_seq ?_))
        have hrb := ringI_bd n o.length (by omega)
        obtain ⟨z, hz⟩ : ∃ z, o[(ringI n o.length).toNat]? = some z := ⟨_, List.getElem?_eq_getElem (by omega)⟩
        obtain ⟨hz1, hz2, hz3, hz4⟩ := hfo z (List.mem_of_getElem? hz)
        have hzm : z.price ≤ price := by rw [← hsu]; exact sumI_mem_le hnn _ (List.mem_map_of_mem (List.mem_of_getElem? hz))
        have hz0 := sumI_nonneg hz3
        refine cj_regionG ?_
        refine gj_step (y_move rfl) rfl rfl rfl (gj_step (y_move rfl) rfl rfl rfl (gj_step (y_move rfl) rfl rfl rfl (gj_step (y_lenA Tryz.underlying26 rfl) rfl rfl rfl (?_))))
        refine gj_step (y_call Tryz.call9 rfl (fun w hp => k_Ring _ _ w (by omega))) rfl rfl rfl ?_
        refine gj_step (y_ixR (reads_sl) Tryz.underlying26 Tryz.sizeOf32 rfl rfl (⟨by omega, by omega⟩)) rfl rfl rfl (gj_step (y_faE fa32_2 rfl) rfl rfl rfl (gj_step (y_ld1 (reads_sl) Tryz.isAgg3 rfl (hz) rfl) rfl rfl rfl (gj_step (y_assign rfl) rfl rfl rfl (?_))))
        refine gj_nil ?_
        refine ej_th (cj_seq (cj_region ?_))
        refine oj_step (y_loadN Tryz.isAgg25 Tryz.sizeOf25 rfl) rfl rfl rfl ?_
        refine oj_step (y_move rfl) rfl rfl rfl ?_
        refine oj_callS (fun A c => .tuple #[.slice A (Ti.PayL cs hv z.left).length c, .int .i64 (Ti.PayE cs hv z.left)]) 1 enInt (Ti.PayL cs hv z.left) Tryz.call10 rfl (fun w hp => Ti.k_Pay cs hv Ac Ah cc ch z.left w hp.rd hp.rd) rfl (fun A96 c96 fp96 hfp96 => ?_)
        refine oj_step (y_move rfl) rfl rfl rfl ?_
        refine oj_step (y_extract rfl rfl) rfl rfl rfl ?_
        refine oj_step (y_extract rfl rfl) rfl rfl rfl ?_
        refine oj_step (y_assign rfl) rfl rfl rfl ?_
        refine oj_step (y_assign rfl) rfl rfl rfl ?_
        refine oj_nil ?_
        refine ej_th (cj_seq (cj_seq ?_))
        refine cj_regionG (gj_step (y_move rfl) rfl rfl rfl (gj_step (y_neq rfl rfl) rfl rfl rfl (gj_nil ?_)))
        refine ej_th ?_
        refine cj_cond rfl (fun h100 => ?_) (fun h100 => ?_)
        · have h100b := h100
          try simp only [sxb] at h100
          obtain ⟨hn1, hn2⟩ := Ti.pay_no h100
          refine cj_seq ?_
          refine cj_regionG ?_
          refine gj_step (y_move rfl) rfl rfl rfl (gj_step (y_lenA Tryz.underlying23 rfl) rfl rfl rfl (gj_step (y_eql rfl rfl) rfl rfl rfl (gj_step (y_move rfl) rfl rfl rfl (?_))))
          refine gj_g 14 104 118 rfl rfl rfl rfl (fun hg104 => gj_yes rfl rfl rfl (y_move rfl) rfl rfl (gj_yes rfl rfl rfl (y_eql rfl rfl) rfl rfl (gj_yes rfl rfl rfl (y_move rfl) rfl rfl (gj_g 6 107 113 rfl rfl rfl rfl (fun hg107 => gj_yes rfl rfl rfl (y_move rfl) rfl rfl (gj_yes rfl rfl rfl (y_eql rfl rfl) rfl rfl (gj_yes rfl rfl rfl (y_move rfl) rfl rfl (gj_g 2 110 112 rfl rfl rfl rfl (fun hg110 => gj_yes rfl rfl rfl (y_move rfl) rfl rfl (gj_yes rfl rfl rfl (y_gtr rfl rfl) rfl rfl (gj_nil rfl))) (gj_yes rfl rfl rfl (y_and rfl rfl rfl) rfl rfl (gj_nil rfl)))))) (gj_yes rfl rfl rfl (y_or rfl rfl rfl) rfl rfl (gj_yes rfl rfl rfl (y_move rfl) rfl rfl (gj_g 2 115 117 rfl rfl rfl rfl (fun hg115 => gj_yes rfl rfl rfl (y_move rfl) rfl rfl (gj_yes rfl rfl rfl (y_eql rfl rfl) rfl rfl (gj_nil rfl))) (gj_yes rfl rfl rfl (y_or rfl rfl rfl) rfl rfl (gj_nil rfl))))))))) ?_
          refine gj_step (y_and rfl rfl rfl) rfl rfl rfl (gj_step (y_move rfl) rfl rfl rfl (?_))
          refine gj_g 1 120 121 rfl rfl rfl rfl (fun hg120 => gj_yes rfl rfl rfl (y_call Tryz.call7 rfl (fun w hp => k_paid08 w)) rfl rfl (gj_nil rfl)) ?_
          refine gj_step (y_and rfl rfl rfl) rfl rfl rfl (gj_step (y_assign rfl) rfl rfl rfl (?_))
          refine gj_nil ?_
          refine ej_th (cj_ret (ej_then_ret ?_))
          refine ej_ret1 rfl Tryz.results3 rfl (fun w' hp => ⟨congrArg (fun b => Ending.returned (.bool b)) (?_ : _ = true), hp.below⟩)
          rw [hn1]
          rcases hn2 with e | ⟨e, e2⟩ | e
          · rw [e]; rfl
          · rw [e]
            have : 2000 < z.left := by omega
            simp [this]
          · rw [e]; rfl
        · have h100b := h100
          try simp only [sxb] at h100
          have hE1 : Ti.PayE cs hv z.left = 0 := by omega
          obtain ⟨hD, hpl, hpw, hpb2⟩ := Ti.pay_yes hE1
          have hD1 := hD.n
          have hD2 := hD.l
          have hzn : ∀ v ∈ (List.zipWith (fun c p => p * c) cs (Ti.PayL cs hv z.left)), 0 ≤ v := fun v hvm => by
            obtain ⟨i, hi⟩ := List.mem_iff_getElem?.1 hvm
            rw [List.getElem?_zipWith] at hi
            cases h1 : cs[i]? with
            | none => rw [h1] at hi; simp at hi
            | some c =>
              cases h2 : (Ti.PayL cs hv z.left)[i]? with
              | none => rw [h1, h2] at hi; simp at hi
              | some p =>
                rw [h1, h2] at hi
                simp only [Option.some.injEq] at hi
                have hil := (List.getElem?_eq_some_iff.1 h1).1
                have h3 := hpb2 i p _ h2 (List.getElem?_eq_getElem (show i < hv.length by omega))
                have h4 := hD.c c (List.mem_of_getElem? h1)
                rw [← hi]
                exact Int.mul_nonneg h3.1 (by omega)
          have hzl : (List.zipWith (fun c p => p * c) cs (Ti.PayL cs hv z.left)).length = cs.length := by rw [List.length_zipWith]; omega
          refine cj_skip (ej_th (cj_seq ?_))
          refine cj_regionG (gj_step (y_assign rfl) rfl rfl rfl (gj_nil ?_))
          refine ej_th (cj_seq (cj_seq ?_))
          refine cj_regionG (gj_step (y_assign rfl) rfl rfl rfl (gj_nil ?_))
          refine ej_th (cj_block ?_)
          refine cj_lpic (X := Nat) [(6, _), (13, _), (14, _)] (fun j => j ≤ (Ti.PayL cs hv z.left).length) (fun j => [(16, .int .i64 (j : Nat)), (15, .int .i64 (sumI ((List.zipWith (fun c p => p * c) cs (Ti.PayL cs hv z.left)).take j)))]) (fun j => (Ti.PayL cs hv z.left).length - j) 0 (Nat.zero_le _) ⟨rfl, rfl, rfl, rfl, rfl, trivial⟩ ?_
          rintro j hj
          dsimp only [List.cons_append, List.nil_append]
          refine cj_seq (cj_seq ?_)
          refine cj_regionG (gj_step (y_move rfl) rfl rfl rfl (gj_step (y_move rfl) rfl rfl rfl (gj_step (y_lenA Tryz.underlying23 rfl) rfl rfl rfl (gj_step (y_lss rfl rfl) rfl rfl rfl (gj_nil ?_)))))
          refine ej_th ?_
          refine cj_cond rfl (fun h126 => ?_) (fun h126 => ?_)
          · have h126b := h126
            try simp only [sxb] at h126
            obtain ⟨p, hpj⟩ : ∃ p, (Ti.PayL cs hv z.left)[j]? = some p := ⟨_, List.getElem?_eq_getElem (by omega)⟩
            obtain ⟨q, hhj⟩ : ∃ q, hv[j]? = some q := ⟨_, List.getElem?_eq_getElem (by omega)⟩
            obtain ⟨c, hcj⟩ : ∃ c, cs[j]? = some c := ⟨_, List.getElem?_eq_getElem (by omega)⟩
            have hpq := hpb2 j p q hpj hhj
            have hqb := hD.h q (List.mem_of_getElem? hhj)
            have hcb := hD.c c (List.mem_of_getElem? hcj)
            have hmb := Pu.mul_bd (a := p) (b := c) (m := 50) (n := 50000) (by omega) (by omega)
            have hzj : (List.zipWith (fun c p => p * c) cs (Ti.PayL cs hv z.left))[j]? = some (p * c) := by rw [List.getElem?_zipWith, hcj, hpj]
            have hzt := sumI_take_get hzj
            have hzs1 := Pu.sumI_take_le hzn (j + 1)
            have hzs0 := Pu.sumI_take_le hzn j
            refine cj_skip (ej_th (cj_seq (cj_block (cj_seq (cj_seq ?_)))))
            refine cj_draw (by kernel_rfl) (by kernel_rfl) ?_
            refine gj_step (y_move rfl) rfl rfl rfl (gj_step (y_fa0 fa25_0 rfl) rfl rfl rfl (gj_step (y_load1 Tryz.isAgg23 rfl rfl) rfl rfl rfl (gj_step (y_lenA Tryz.underlying23 rfl) rfl rfl rfl (gj_step (y_geq rfl rfl) rfl rfl rfl (gj_step (y_move rfl) rfl rfl rfl (?_))))))
            refine gj_g 5 134 139 rfl rfl rfl rfl (fun hg134 => gj_yes rfl rfl rfl (y_move rfl) rfl rfl (gj_yes rfl rfl rfl (y_fa fa25_1 rfl) rfl rfl (gj_yes rfl rfl rfl (y_load1 Tryz.isAgg23 rfl rfl) rfl rfl (gj_yes rfl rfl rfl (y_lenA Tryz.underlying23 rfl) rfl rfl (gj_yes rfl rfl rfl (y_geq rfl rfl) rfl rfl (gj_nil rfl)))))) ?_
            refine gj_step (y_or rfl rfl rfl) rfl rfl rfl (gj_step (y_move rfl) rfl rfl rfl (?_))
            refine gj_g 11 141 152 rfl rfl rfl rfl (fun hg141 => gj_yes rfl rfl rfl (y_move rfl) rfl rfl (gj_yes rfl rfl rfl (y_move rfl) rfl rfl (gj_yes rfl rfl rfl (y_ixR (reads_sl) Tryz.underlying23 Tryz.sizeOf3 rfl rfl (⟨by omega, by omega⟩)) rfl rfl (gj_yes rfl rfl rfl (y_ld0 (reads_sl) Tryz.isAgg3 rfl (hpj) rfl) rfl rfl (gj_yes rfl rfl rfl (y_fa fa25_1 rfl) rfl rfl (gj_yes rfl rfl rfl (y_load1 Tryz.isAgg23 rfl rfl) rfl rfl (gj_yes rfl rfl rfl (y_move rfl) rfl rfl (gj_yes rfl rfl rfl (y_ixR (reads_sl) Tryz.underlying23 Tryz.sizeOf3 rfl rfl (⟨by omega, by omega⟩)) rfl rfl (gj_yes rfl rfl rfl (y_ld0 (reads_sl) Tryz.isAgg3 rfl (hhj) rfl) rfl rfl (gj_yes rfl rfl rfl (y_call Tryz.call11 rfl (fun w hp => k_From _ _ _ w)) rfl rfl (gj_yes rfl rfl rfl (y_not rfl) rfl rfl (gj_nil rfl)))))))))))) ?_
            refine gj_step (y_or rfl rfl rfl) rfl rfl rfl (?_)
            refine gj_nil ?_
            refine ej_th ?_
            refine cj_cond rfl (fun h153 => ?_) (fun h153 => ?_)
            · exfalso
              simp only [Bool.or_eq_true, decide_eq_true_eq] at h153
              rcases h153 with h | h
              · omega
              · rw [Um.btw_mk hpq] at h; cases h
            · have h153b := h153
              try simp only [sxb] at h153
              refine cj_skip (ej_th ?_)
              refine cj_draw (by kernel_rfl) (by kernel_rfl) (gj_step (y_move rfl) rfl rfl rfl (gj_step (y_move rfl) rfl rfl rfl (gj_step (y_move rfl) rfl rfl rfl (gj_step (y_ixR (reads_sl) Tryz.underlying23 Tryz.sizeOf3 rfl rfl (⟨by omega, by omega⟩)) rfl rfl rfl (gj_step (y_ld0 (reads_sl) Tryz.isAgg3 rfl (hpj) rfl) rfl rfl rfl (gj_step (y_fa0 fa25_0 rfl) rfl rfl rfl (gj_step (y_load1 Tryz.isAgg23 rfl rfl) rfl rfl rfl (gj_step (y_move rfl) rfl rfl rfl (gj_step (y_ixR (reads_sl) Tryz.underlying23 Tryz.sizeOf3 rfl rfl (⟨by omega, by omega⟩)) rfl rfl rfl (gj_step (y_ld0 (reads_sl) Tryz.isAgg3 rfl (hcj) rfl) rfl rfl rfl (gj_step (y_mul rfl rfl (by omega)) rfl rfl rfl (gj_step (y_add rfl rfl (by omega)) rfl rfl rfl (gj_step (y_assign rfl) rfl rfl rfl (gj_nil ?_))))))))))))))
              refine ej_blk (ej_th ?_)
              refine cj_regionG (gj_step (y_move rfl) rfl rfl rfl (gj_step (y_add rfl rfl (by omega)) rfl rfl rfl (gj_step (y_assign rfl) rfl rfl rfl (gj_nil ?_))))
              rw [← hzt]
              exact ej_nx (j + 1) (by omega) (by omega) ⟨rfl, rfl, rfl, rfl, rfl, trivial⟩
          · have h126b := h126
            try simp only [sxb] at h126
            have hzt : sumI ((List.zipWith (fun c p => p * c) cs (Ti.PayL cs hv z.left)).take j) = z.left := by rw [List.take_of_length_le (by omega), hpw]
            refine cj_exit (ej_then_exit (ej_then_exit (ej_blk_hit (ej_th (cj_seq ?_)))))
            refine cj_regionG ?_
            refine gj_step (y_move rfl) rfl rfl rfl (gj_step (y_move rfl) rfl rfl rfl (gj_step (y_eql rfl rfl) rfl rfl rfl (gj_step (y_move rfl) rfl rfl rfl (?_))))
            refine gj_g 6 169 175 rfl rfl rfl rfl (fun hg169 => gj_yes rfl rfl rfl (y_move rfl) rfl rfl (gj_yes rfl rfl rfl (y_lenA Tryz.underlying23 rfl) rfl rfl (gj_yes rfl rfl rfl (y_fa0 fa25_0 rfl) rfl rfl (gj_yes rfl rfl rfl (y_load1 Tryz.isAgg23 rfl rfl) rfl rfl (gj_yes rfl rfl rfl (y_lenA Tryz.underlying23 rfl) rfl rfl (gj_yes rfl rfl rfl (y_eql rfl rfl) rfl rfl (gj_nil rfl))))))) ?_
            refine gj_step (y_and rfl rfl rfl) rfl rfl rfl (gj_step (y_move rfl) rfl rfl rfl (?_))
            refine gj_g 1 177 178 rfl rfl rfl rfl (fun hg177 => gj_yes rfl rfl rfl (y_call Tryz.call7 rfl (fun w hp => k_paid08 w)) rfl rfl (gj_nil rfl)) ?_
            refine gj_step (y_and rfl rfl rfl) rfl rfl rfl (gj_step (y_assign rfl) rfl rfl rfl (?_))
            refine gj_nil ?_
            refine ej_th (cj_ret ?_)
            refine ej_ret1 rfl Tryz.results3 rfl (fun w' hp => ⟨congrArg (fun b => Ending.returned (.bool b)) (?_ : _ = true), hp.below⟩)
            rw [hzt, hpl]
            simp

end Go.Proofs.YtppfniekcgnmjaaGreat.To
