/- Texts of ours, joined: 8 of them. Conditions: none. -/
import Derived.Test.YtehmifpofpifkaaZf
namespace Go.Proofs.Ytehmifpofpifkaa
open Go.Sx Go.RowKit Am
set_option maxRecDepth 20000
set_option maxHeartbeats 1000000 in
theorem k_with (res : List Int) (Ar : Option Addr) (cr : Nat) (vs : List ListV) (Av : Option Addr) (cv : Nat) (k : Nat) (w : World) (hres : Rd w 1 enInt Ar res) (hvs : Rd w 1 encLs Av vs) (hgv : ∀ r ∈ vs, GoodL w r) (hco : CloOk res (rowsV vs)) (hk : k < res.length) : Calls Try.prog 78 #[.agg #[.slice Ar res.length cr, .slice Av vs.length cv], .int .i64 (k : Nat)] w (fun e w' => ∃ z : { z : WithZ // rowsV z.rows = withV (rowsV vs) k }, e = .returned (.agg #[.slice z.1.B (withR res k).length z.1.d, .slice z.1.Bv z.1.rows.length z.1.dv]) ∧ Grow w w' ∧ (∀ g ∈ ([] : List Fact), g.P w' ∧ ∀ b, g.fp b → w.heap.size ≤ b ∧ b < w'.heap.size) ∧ ([] : List Fact).Pairwise (fun f g => ∀ b, f.fp b → ¬ g.fp b) ∧ (∀ g ∈ [sl (fun i => z.1.n1 ≤ i ∧ i < z.1.n2) 1 enInt z.1.B (withR res k), sl (fun i => z.1.n1 ≤ i ∧ i < z.1.n2) 1 encLs z.1.Bv z.1.rows, rwF (fun i => z.1.n1 ≤ i ∧ i < z.1.n2) z.1.rows], g.P w' ∧ ∀ b, g.fp b → w.heap.size ≤ b ∧ b < w'.heap.size ∧ ∀ o ∈ ([] : List Fact), ¬ o.fp b)) := by
  have hlr := hres.len
  have hlv := hvs.len
  have h6 := hco.m
  have h6v := hco.n
  rw [rowsV_len] at h6v
  have hxk : res[((k : Nat) : Int).toNat]? = some (res.getD k 0) := by rw [show ((k : Nat) : Int).toNat = k by omega, List.getD_eq_getElem?_getD, List.getElem?_eq_getElem hk]; rfl
  refine enter_pure (args := [.agg #[.slice Ar res.length cr, .slice Av vs.length cv], .int .i64 (k : Nat)]) [sl (fun b => b < w.heap.size) 1 enInt Ar res, sl (fun b => b < w.heap.size) 1 encLs Av vs] Try.func78 rfl (by rw [Try.ntmps78]; simp) (fun g hg => by simp at hg; rcases hg with rfl | rfl; exact ⟨hres, fun _ h => h⟩; exact ⟨hvs, fun _ h => h⟩) ?_
  refine cj_seq (cj_region ?_)
  refine oj_box rfl rfl rfl (fun b2 => ?_)
  refine oj_alloc Try.zeroValue117 rfl rfl (fun b4 => ?_)
  refine oj_nil ?_
  refine ej_th ?_
  refine cj_cuti (X := Nat × Option Addr × Nat) [(1, _), (2, _), (4, _)] ⟨rfl, rfl, rfl, trivial⟩ (fun ⟨b5, A19, c19⟩ => True) (fun ⟨b5, A19, c19⟩ => [(5, .pointer (some ⟨b5, 0, none⟩))]) (fun ⟨b5, A19, c19⟩ => [ow 3 1 enInt A19 c19 (res ++ [res.getD k 0]), ownB b5 (cellsB 117 [.slice A19 (res ++ [res.getD k 0]).length c19, .slice none 0 0]), ownB b4 (cellsB 117 [.slice none 0 0, .slice none 0 0]), ownB b2 (cellsB 117 [.slice Ar res.length cr, .slice Av vs.length cv])]) (fun ⟨b5, A19, c19⟩ => [sl (fun b => b < w.heap.size) 1 enInt Ar res, sl (fun b => b < w.heap.size) 1 encLs Av vs]) ?_ ?_
  · refine cj_plan 16 (by kernel_rfl) (by kernel_rfl) ?_
    refine pl_y 0 rfl (y_fa0 fa117_0 rfl) rfl rfl rfl rfl (by kernel_rfl) ?_
    refine pl_y 1 rfl (y_fa0 fa60_0 rfl) rfl rfl rfl rfl (by kernel_rfl) ?_
    refine pl_y 2 rfl (y_load1 Try.isAgg43 rfl rfl) rfl rfl rfl rfl (by kernel_rfl) ?_
    refine pl_y 4 rfl (y_fa0 fa117_0 rfl) rfl rfl rfl rfl (by kernel_rfl) ?_
    refine pl_y 5 rfl (y_fa0 fa60_0 rfl) rfl rfl rfl rfl (by kernel_rfl) ?_
    refine pl_y 6 rfl (y_load1 Try.isAgg43 rfl rfl) rfl rfl rfl rfl (by kernel_rfl) ?_
    refine pl_y 7 rfl (y_move rfl) rfl rfl rfl rfl (by kernel_rfl) ?_
    refine pl_y 8 rfl (y_ixR (reads_sl) Try.underlying43 Try.sizeOf3 rfl rfl (⟨by omega, by omega⟩)) rfl rfl rfl rfl (by kernel_rfl) ?_
    refine pl_y 9 rfl (y_ld0 (reads_sl) Try.isAgg3 rfl (hxk) rfl) rfl rfl rfl rfl (by kernel_rfl) ?_
    refine pl_w3 3 10 14 (by kernel_rfl) rfl rfl (pl_fire rfl rfl rfl (by kernel_rfl) ?_) (pl_fire rfl rfl rfl (by kernel_rfl) ?_) (pl_fire rfl rfl rfl (by kernel_rfl) ?_)
    · refine oj_callO (fun B d => .slice B (res).length d) 3 1 enInt (res) Try.call69 rfl (fun w hp => k_CloneI (res) Ar cr w hp.rd (by omega)) rfl (fun B11 e11 => ?_)
      refine oj_nil ?_
      refine ej_pl (lt_y (y_ld0 (reads_sl) Try.isAgg3 rfl (hxk) rfl) rfl (lt_y (y_ixR (reads_sl) Try.underlying43 Try.sizeOf3 rfl rfl (⟨by omega, by omega⟩)) rfl (lt_y (y_move rfl) rfl (lt_y (y_load1 Try.isAgg43 rfl rfl) rfl (lt_y (y_fa0 fa60_0 rfl) rfl (lt_y (y_fa0 fa117_0 rfl) rfl (lt_w (by kernel_rfl) (lt_y (y_fa0 fa60_0 rfl) rfl (lt_y (y_fa0 fa117_0 rfl) rfl (lt_nil)))))))))) ?_
      refine pl_w2 10 14 (by kernel_rfl) rfl rfl (pl_fire rfl rfl rfl (by kernel_rfl) ?_) (pl_fire rfl rfl rfl (by kernel_rfl) ?_)
      · refine oj_buildSlice (cs := [.int .i64 (res.getD k 0)]) [.int .i64 0] Try.underlying43 Try.sizeOf3 Try.zeroValue3 rfl rfl (by kernel_rfl) (by kernel_rfl) rfl (fun b18 => ?_)
        refine oj_nil ?_
        refine ej_pl (lt_w (by kernel_rfl) (lt_y (y_ixR (reads_sl) Try.underlying43 Try.sizeOf3 rfl rfl (⟨by omega, by omega⟩)) rfl (lt_y (y_move rfl) rfl (lt_y (y_load1 Try.isAgg43 rfl rfl) rfl (lt_y (y_fa0 fa60_0 rfl) rfl (lt_y (y_fa0 fa117_0 rfl) rfl (lt_y (y_load1 Try.isAgg43 rfl rfl) rfl (lt_y (y_fa0 fa60_0 rfl) rfl (lt_y (y_fa0 fa117_0 rfl) rfl (lt_nil)))))))))) ?_
        refine pl_w2 11 14 (by kernel_rfl) rfl rfl (pl_fire rfl rfl rfl (by kernel_rfl) ?_) (pl_fire rfl rfl rfl (by kernel_rfl) ?_)
        · refine oj_append  el43 (fun _ => rfl) enInt_one rfl rfl rfl (reads_lit [res.getD k 0] (fun _ => rfl) rfl) (by unfold maxLen; simp only [List.length_append, List.length_cons, List.length_nil]; omega) (by simp only [List.length_append, List.length_cons, List.length_nil]; omega) rfl (fun A19 c19 => ?_)
          refine oj_nil ?_
          refine ej_pl (lt_y (y_ld0 (reads_sl) Try.isAgg3 rfl (hxk) rfl) rfl (lt_y (y_ixR (reads_sl) Try.underlying43 Try.sizeOf3 rfl rfl (⟨by omega, by omega⟩)) rfl (lt_y (y_move rfl) rfl (lt_y (y_load1 Try.isAgg43 rfl rfl) rfl (lt_y (y_fa0 fa60_0 rfl) rfl (lt_y (y_fa0 fa117_0 rfl) rfl (lt_y (y_load1 Try.isAgg43 rfl rfl) rfl (lt_y (y_fa0 fa60_0 rfl) rfl (lt_y (y_fa0 fa117_0 rfl) rfl (lt_nil)))))))))) ?_
          refine pl_y 12 rfl (y_build (cs := [.slice A19 (res ++ [res.getD k 0]).length c19, .slice none 0 0]) st60 rfl (by kernel_rfl)) rfl rfl rfl rfl (by kernel_rfl) ?_
          refine pl_y 13 rfl (y_build (cs := [.slice A19 (res ++ [res.getD k 0]).length c19, .slice none 0 0]) st117 rfl (by kernel_rfl)) rfl rfl rfl rfl (by kernel_rfl) ?_
          refine pl_w1 14 (by kernel_rfl) rfl rfl (pl_fire rfl rfl rfl (by kernel_rfl) ?_)
          refine oj_alloc Try.zeroValue117 rfl rfl (fun b5 => ?_)
          refine oj_nil ?_
          refine ej_pl (lt_y (y_build (cs := [.slice A19 (res ++ [res.getD k 0]).length c19, .slice none 0 0]) st117 rfl (by kernel_rfl)) rfl (lt_y (y_build (cs := [.slice A19 (res ++ [res.getD k 0]).length c19, .slice none 0 0]) st60 rfl (by kernel_rfl)) rfl (lt_y (y_ld0 (reads_sl) Try.isAgg3 rfl (hxk) rfl) rfl (lt_y (y_ixR (reads_sl) Try.underlying43 Try.sizeOf3 rfl rfl (⟨by omega, by omega⟩)) rfl (lt_y (y_move rfl) rfl (lt_y (y_load1 Try.isAgg43 rfl rfl) rfl (lt_y (y_fa0 fa60_0 rfl) rfl (lt_y (y_fa0 fa117_0 rfl) rfl (lt_y (y_load1 Try.isAgg43 rfl rfl) rfl (lt_y (y_fa0 fa60_0 rfl) rfl (lt_y (y_fa0 fa117_0 rfl) rfl (lt_nil)))))))))))) ?_
          refine pl_w1 15 (by kernel_rfl) rfl rfl (pl_fire rfl rfl rfl (by kernel_rfl) ?_)
          refine oj_store rfl rfl rfl rfl Try.sizeOf117 rfl ?_
          refine oj_nil ?_
          refine ej_pl (lt_w (by kernel_rfl) (lt_w (by kernel_rfl) (lt_w (by kernel_rfl) (lt_w (by kernel_rfl) (lt_w (by kernel_rfl) (lt_w (by kernel_rfl) (lt_w (by kernel_rfl) (lt_w (by kernel_rfl) (lt_w (by kernel_rfl) (lt_w (by kernel_rfl) (lt_w (by kernel_rfl) (lt_nil)))))))))))) ?_
          refine pl_end (by kernel_rfl) ?_
          refine ej_takes [ow 3 1 enInt A19 c19 (res ++ [res.getD k 0]), ownB b5 (cellsB 117 [.slice A19 (res ++ [res.getD k 0]).length c19, .slice none 0 0]), ownB b4 (cellsB 117 [.slice none 0 0, .slice none 0 0]), ownB b2 (cellsB 117 [.slice Ar res.length cr, .slice Av vs.length cv])] ?_
          exact ej_ct (b5, A19, c19) trivial ⟨rfl, rfl, rfl, rfl, trivial⟩
        · refine oj_alloc Try.zeroValue117 rfl rfl (fun b5 => ?_)
          refine oj_nil ?_
          refine ej_pl (lt_y (y_ld0 (reads_sl) Try.isAgg3 rfl (hxk) rfl) rfl (lt_y (y_ixR (reads_sl) Try.underlying43 Try.sizeOf3 rfl rfl (⟨by omega, by omega⟩)) rfl (lt_y (y_move rfl) rfl (lt_y (y_load1 Try.isAgg43 rfl rfl) rfl (lt_y (y_fa0 fa60_0 rfl) rfl (lt_y (y_fa0 fa117_0 rfl) rfl (lt_y (y_load1 Try.isAgg43 rfl rfl) rfl (lt_y (y_fa0 fa60_0 rfl) rfl (lt_y (y_fa0 fa117_0 rfl) rfl (lt_nil)))))))))) ?_
          refine pl_w1 11 (by kernel_rfl) rfl rfl (pl_fire rfl rfl rfl (by kernel_rfl) ?_)
          refine oj_append  el43 (fun _ => rfl) enInt_one rfl rfl rfl (reads_lit [res.getD k 0] (fun _ => rfl) rfl) (by unfold maxLen; simp only [List.length_append, List.length_cons, List.length_nil]; omega) (by simp only [List.length_append, List.length_cons, List.length_nil]; omega) rfl (fun A19 c19 => ?_)
          refine oj_nil ?_
          refine ej_pl (lt_y (y_ld0 (reads_sl) Try.isAgg3 rfl (hxk) rfl) rfl (lt_y (y_ixR (reads_sl) Try.underlying43 Try.sizeOf3 rfl rfl (⟨by omega, by omega⟩)) rfl (lt_y (y_move rfl) rfl (lt_y (y_load1 Try.isAgg43 rfl rfl) rfl (lt_y (y_fa0 fa60_0 rfl) rfl (lt_y (y_fa0 fa117_0 rfl) rfl (lt_y (y_load1 Try.isAgg43 rfl rfl) rfl (lt_y (y_fa0 fa60_0 rfl) rfl (lt_y (y_fa0 fa117_0 rfl) rfl (lt_nil)))))))))) ?_
          refine pl_y 12 rfl (y_build (cs := [.slice A19 (res ++ [res.getD k 0]).length c19, .slice none 0 0]) st60 rfl (by kernel_rfl)) rfl rfl rfl rfl (by kernel_rfl) ?_
          refine pl_y 13 rfl (y_build (cs := [.slice A19 (res ++ [res.getD k 0]).length c19, .slice none 0 0]) st117 rfl (by kernel_rfl)) rfl rfl rfl rfl (by kernel_rfl) ?_
          refine pl_w1 15 (by kernel_rfl) rfl rfl (pl_fire rfl rfl rfl (by kernel_rfl) ?_)
          refine oj_store rfl rfl rfl rfl Try.sizeOf117 rfl ?_
          refine oj_nil ?_
          refine ej_pl (lt_w (by kernel_rfl) (lt_w (by kernel_rfl) (lt_w (by kernel_rfl) (lt_w (by kernel_rfl) (lt_w (by kernel_rfl) (lt_w (by kernel_rfl) (lt_w (by kernel_rfl) (lt_w (by kernel_rfl) (lt_w (by kernel_rfl) (lt_w (by kernel_rfl) (lt_w (by kernel_rfl) (lt_nil)))))))))))) ?_
          refine pl_end (by kernel_rfl) ?_
          refine ej_takes [ow 3 1 enInt A19 c19 (res ++ [res.getD k 0]), ownB b5 (cellsB 117 [.slice A19 (res ++ [res.getD k 0]).length c19, .slice none 0 0]), ownB b4 (cellsB 117 [.slice none 0 0, .slice none 0 0]), ownB b2 (cellsB 117 [.slice Ar res.length cr, .slice Av vs.length cv])] ?_
          exact ej_ct (b5, A19, c19) trivial ⟨rfl, rfl, rfl, rfl, trivial⟩
      · refine oj_alloc Try.zeroValue117 rfl rfl (fun b5 => ?_)
        refine oj_nil ?_
        refine ej_pl (lt_y (y_ld0 (reads_sl) Try.isAgg3 rfl (hxk) rfl) rfl (lt_y (y_ixR (reads_sl) Try.underlying43 Try.sizeOf3 rfl rfl (⟨by omega, by omega⟩)) rfl (lt_y (y_move rfl) rfl (lt_y (y_load1 Try.isAgg43 rfl rfl) rfl (lt_y (y_fa0 fa60_0 rfl) rfl (lt_y (y_fa0 fa117_0 rfl) rfl (lt_y (y_load1 Try.isAgg43 rfl rfl) rfl (lt_y (y_fa0 fa60_0 rfl) rfl (lt_y (y_fa0 fa117_0 rfl) rfl (lt_nil)))))))))) ?_
        refine pl_w1 10 (by kernel_rfl) rfl rfl (pl_fire rfl rfl rfl (by kernel_rfl) ?_)
        refine oj_buildSlice (cs := [.int .i64 (res.getD k 0)]) [.int .i64 0] Try.underlying43 Try.sizeOf3 Try.zeroValue3 rfl rfl (by kernel_rfl) (by kernel_rfl) rfl (fun b18 => ?_)
        refine oj_nil ?_
        refine ej_pl (lt_w (by kernel_rfl) (lt_y (y_ixR (reads_sl) Try.underlying43 Try.sizeOf3 rfl rfl (⟨by omega, by omega⟩)) rfl (lt_y (y_move rfl) rfl (lt_y (y_load1 Try.isAgg43 rfl rfl) rfl (lt_y (y_fa0 fa60_0 rfl) rfl (lt_y (y_fa0 fa117_0 rfl) rfl (lt_y (y_load1 Try.isAgg43 rfl rfl) rfl (lt_y (y_fa0 fa60_0 rfl) rfl (lt_y (y_fa0 fa117_0 rfl) rfl (lt_nil)))))))))) ?_
        refine pl_w1 11 (by kernel_rfl) rfl rfl (pl_fire rfl rfl rfl (by kernel_rfl) ?_)
        refine oj_append  el43 (fun _ => rfl) enInt_one rfl rfl rfl (reads_lit [res.getD k 0] (fun _ => rfl) rfl) (by unfold maxLen; simp only [List.length_append, List.length_cons, List.length_nil]; omega) (by simp only [List.length_append, List.length_cons, List.length_nil]; omega) rfl (fun A19 c19 => ?_)
        refine oj_nil ?_
        refine ej_pl (lt_y (y_ld0 (reads_sl) Try.isAgg3 rfl (hxk) rfl) rfl (lt_y (y_ixR (reads_sl) Try.underlying43 Try.sizeOf3 rfl rfl (⟨by omega, by omega⟩)) rfl (lt_y (y_move rfl) rfl (lt_y (y_load1 Try.isAgg43 rfl rfl) rfl (lt_y (y_fa0 fa60_0 rfl) rfl (lt_y (y_fa0 fa117_0 rfl) rfl (lt_y (y_load1 Try.isAgg43 rfl rfl) rfl (lt_y (y_fa0 fa60_0 rfl) rfl (lt_y (y_fa0 fa117_0 rfl) rfl (lt_nil)))))))))) ?_
        refine pl_y 12 rfl (y_build (cs := [.slice A19 (res ++ [res.getD k 0]).length c19, .slice none 0 0]) st60 rfl (by kernel_rfl)) rfl rfl rfl rfl (by kernel_rfl) ?_
        refine pl_y 13 rfl (y_build (cs := [.slice A19 (res ++ [res.getD k 0]).length c19, .slice none 0 0]) st117 rfl (by kernel_rfl)) rfl rfl rfl rfl (by kernel_rfl) ?_
        refine pl_w1 15 (by kernel_rfl) rfl rfl (pl_fire rfl rfl rfl (by kernel_rfl) ?_)
        refine oj_store rfl rfl rfl rfl Try.sizeOf117 rfl ?_
        refine oj_nil ?_
        refine ej_pl (lt_w (by kernel_rfl) (lt_w (by kernel_rfl) (lt_w (by kernel_rfl) (lt_w (by kernel_rfl) (lt_w (by kernel_rfl) (lt_w (by kernel_rfl) (lt_w (by kernel_rfl) (lt_w (by kernel_rfl) (lt_w (by kernel_rfl) (lt_w (by kernel_rfl) (lt_w (by kernel_rfl) (lt_nil)))))))))))) ?_
        refine pl_end (by kernel_rfl) ?_
        refine ej_takes [ow 3 1 enInt A19 c19 (res ++ [res.getD k 0]), ownB b5 (cellsB 117 [.slice A19 (res ++ [res.getD k 0]).length c19, .slice none 0 0]), ownB b4 (cellsB 117 [.slice none 0 0, .slice none 0 0]), ownB b2 (cellsB 117 [.slice Ar res.length cr, .slice Av vs.length cv])] ?_
        exact ej_ct (b5, A19, c19) trivial ⟨rfl, rfl, rfl, rfl, trivial⟩
    · refine oj_buildSlice (cs := [.int .i64 (res.getD k 0)]) [.int .i64 0] Try.underlying43 Try.sizeOf3 Try.zeroValue3 rfl rfl (by kernel_rfl) (by kernel_rfl) rfl (fun b18 => ?_)
      refine oj_nil ?_
      refine ej_pl (lt_w (by kernel_rfl) (lt_y (y_ixR (reads_sl) Try.underlying43 Try.sizeOf3 rfl rfl (⟨by omega, by omega⟩)) rfl (lt_y (y_move rfl) rfl (lt_y (y_load1 Try.isAgg43 rfl rfl) rfl (lt_y (y_fa0 fa60_0 rfl) rfl (lt_y (y_fa0 fa117_0 rfl) rfl (lt_y (y_load1 Try.isAgg43 rfl rfl) rfl (lt_y (y_fa0 fa60_0 rfl) rfl (lt_y (y_fa0 fa117_0 rfl) rfl (lt_nil)))))))))) ?_
      refine pl_w2 3 14 (by kernel_rfl) rfl rfl (pl_fire rfl rfl rfl (by kernel_rfl) ?_) (pl_fire rfl rfl rfl (by kernel_rfl) ?_)
      · refine oj_callO (fun B d => .slice B (res).length d) 3 1 enInt (res) Try.call69 rfl (fun w hp => k_CloneI (res) Ar cr w hp.rd (by omega)) rfl (fun B11 e11 => ?_)
        refine oj_nil ?_
        refine ej_pl (lt_y (y_ld0 (reads_sl) Try.isAgg3 rfl (hxk) rfl) rfl (lt_y (y_ixR (reads_sl) Try.underlying43 Try.sizeOf3 rfl rfl (⟨by omega, by omega⟩)) rfl (lt_y (y_move rfl) rfl (lt_y (y_load1 Try.isAgg43 rfl rfl) rfl (lt_y (y_fa0 fa60_0 rfl) rfl (lt_y (y_fa0 fa117_0 rfl) rfl (lt_w (by kernel_rfl) (lt_y (y_fa0 fa60_0 rfl) rfl (lt_y (y_fa0 fa117_0 rfl) rfl (lt_nil)))))))))) ?_
        refine pl_w2 11 14 (by kernel_rfl) rfl rfl (pl_fire rfl rfl rfl (by kernel_rfl) ?_) (pl_fire rfl rfl rfl (by kernel_rfl) ?_)
        · refine oj_append  el43 (fun _ => rfl) enInt_one rfl rfl rfl (reads_lit [res.getD k 0] (fun _ => rfl) rfl) (by unfold maxLen; simp only [List.length_append, List.length_cons, List.length_nil]; omega) (by simp only [List.length_append, List.length_cons, List.length_nil]; omega) rfl (fun A19 c19 => ?_)
          refine oj_nil ?_
          refine ej_pl (lt_y (y_ld0 (reads_sl) Try.isAgg3 rfl (hxk) rfl) rfl (lt_y (y_ixR (reads_sl) Try.underlying43 Try.sizeOf3 rfl rfl (⟨by omega, by omega⟩)) rfl (lt_y (y_move rfl) rfl (lt_y (y_load1 Try.isAgg43 rfl rfl) rfl (lt_y (y_fa0 fa60_0 rfl) rfl (lt_y (y_fa0 fa117_0 rfl) rfl (lt_y (y_load1 Try.isAgg43 rfl rfl) rfl (lt_y (y_fa0 fa60_0 rfl) rfl (lt_y (y_fa0 fa117_0 rfl) rfl (lt_nil)))))))))) ?_
          refine pl_y 12 rfl (y_build (cs := [.slice A19 (res ++ [res.getD k 0]).length c19, .slice none 0 0]) st60 rfl (by kernel_rfl)) rfl rfl rfl rfl (by kernel_rfl) ?_
          refine pl_y 13 rfl (y_build (cs := [.slice A19 (res ++ [res.getD k 0]).length c19, .slice none 0 0]) st117 rfl (by kernel_rfl)) rfl rfl rfl rfl (by kernel_rfl) ?_
          refine pl_w1 14 (by kernel_rfl) rfl rfl (pl_fire rfl rfl rfl (by kernel_rfl) ?_)
          refine oj_alloc Try.zeroValue117 rfl rfl (fun b5 => ?_)
          refine oj_nil ?_
          refine ej_pl (lt_y (y_build (cs := [.slice A19 (res ++ [res.getD k 0]).length c19, .slice none 0 0]) st117 rfl (by kernel_rfl)) rfl (lt_y (y_build (cs := [.slice A19 (res ++ [res.getD k 0]).length c19, .slice none 0 0]) st60 rfl (by kernel_rfl)) rfl (lt_y (y_ld0 (reads_sl) Try.isAgg3 rfl (hxk) rfl) rfl (lt_y (y_ixR (reads_sl) Try.underlying43 Try.sizeOf3 rfl rfl (⟨by omega, by omega⟩)) rfl (lt_y (y_move rfl) rfl (lt_y (y_load1 Try.isAgg43 rfl rfl) rfl (lt_y (y_fa0 fa60_0 rfl) rfl (lt_y (y_fa0 fa117_0 rfl) rfl (lt_y (y_load1 Try.isAgg43 rfl rfl) rfl (lt_y (y_fa0 fa60_0 rfl) rfl (lt_y (y_fa0 fa117_0 rfl) rfl (lt_nil)))))))))))) ?_
          refine pl_w1 15 (by kernel_rfl) rfl rfl (pl_fire rfl rfl rfl (by kernel_rfl) ?_)
          refine oj_store rfl rfl rfl rfl Try.sizeOf117 rfl ?_
          refine oj_nil ?_
          refine ej_pl (lt_w (by kernel_rfl) (lt_w (by kernel_rfl) (lt_w (by kernel_rfl) (lt_w (by kernel_rfl) (lt_w (by kernel_rfl) (lt_w (by kernel_rfl) (lt_w (by kernel_rfl) (lt_w (by kernel_rfl) (lt_w (by kernel_rfl) (lt_w (by kernel_rfl) (lt_w (by kernel_rfl) (lt_nil)))))))))))) ?_
          refine pl_end (by kernel_rfl) ?_
          refine ej_takes [ow 3 1 enInt A19 c19 (res ++ [res.getD k 0]), ownB b5 (cellsB 117 [.slice A19 (res ++ [res.getD k 0]).length c19, .slice none 0 0]), ownB b4 (cellsB 117 [.slice none 0 0, .slice none 0 0]), ownB b2 (cellsB 117 [.slice Ar res.length cr, .slice Av vs.length cv])] ?_
          exact ej_ct (b5, A19, c19) trivial ⟨rfl, rfl, rfl, rfl, trivial⟩
        · refine oj_alloc Try.zeroValue117 rfl rfl (fun b5 => ?_)
          refine oj_nil ?_
          refine ej_pl (lt_y (y_ld0 (reads_sl) Try.isAgg3 rfl (hxk) rfl) rfl (lt_y (y_ixR (reads_sl) Try.underlying43 Try.sizeOf3 rfl rfl (⟨by omega, by omega⟩)) rfl (lt_y (y_move rfl) rfl (lt_y (y_load1 Try.isAgg43 rfl rfl) rfl (lt_y (y_fa0 fa60_0 rfl) rfl (lt_y (y_fa0 fa117_0 rfl) rfl (lt_y (y_load1 Try.isAgg43 rfl rfl) rfl (lt_y (y_fa0 fa60_0 rfl) rfl (lt_y (y_fa0 fa117_0 rfl) rfl (lt_nil)))))))))) ?_
          refine pl_w1 11 (by kernel_rfl) rfl rfl (pl_fire rfl rfl rfl (by kernel_rfl) ?_)
          refine oj_append  el43 (fun _ => rfl) enInt_one rfl rfl rfl (reads_lit [res.getD k 0] (fun _ => rfl) rfl) (by unfold maxLen; simp only [List.length_append, List.length_cons, List.length_nil]; omega) (by simp only [List.length_append, List.length_cons, List.length_nil]; omega) rfl (fun A19 c19 => ?_)
          refine oj_nil ?_
          refine ej_pl (lt_y (y_ld0 (reads_sl) Try.isAgg3 rfl (hxk) rfl) rfl (lt_y (y_ixR (reads_sl) Try.underlying43 Try.sizeOf3 rfl rfl (⟨by omega, by omega⟩)) rfl (lt_y (y_move rfl) rfl (lt_y (y_load1 Try.isAgg43 rfl rfl) rfl (lt_y (y_fa0 fa60_0 rfl) rfl (lt_y (y_fa0 fa117_0 rfl) rfl (lt_y (y_load1 Try.isAgg43 rfl rfl) rfl (lt_y (y_fa0 fa60_0 rfl) rfl (lt_y (y_fa0 fa117_0 rfl) rfl (lt_nil)))))))))) ?_
          refine pl_y 12 rfl (y_build (cs := [.slice A19 (res ++ [res.getD k 0]).length c19, .slice none 0 0]) st60 rfl (by kernel_rfl)) rfl rfl rfl rfl (by kernel_rfl) ?_
          refine pl_y 13 rfl (y_build (cs := [.slice A19 (res ++ [res.getD k 0]).length c19, .slice none 0 0]) st117 rfl (by kernel_rfl)) rfl rfl rfl rfl (by kernel_rfl) ?_
          refine pl_w1 15 (by kernel_rfl) rfl rfl (pl_fire rfl rfl rfl (by kernel_rfl) ?_)
          refine oj_store rfl rfl rfl rfl Try.sizeOf117 rfl ?_
          refine oj_nil ?_
          refine ej_pl (lt_w (by kernel_rfl) (lt_w (by kernel_rfl) (lt_w (by kernel_rfl) (lt_w (by kernel_rfl) (lt_w (by kernel_rfl) (lt_w (by kernel_rfl) (lt_w (by kernel_rfl) (lt_w (by kernel_rfl) (lt_w (by kernel_rfl) (lt_w (by kernel_rfl) (lt_w (by kernel_rfl) (lt_nil)))))))))))) ?_
          refine pl_end (by kernel_rfl) ?_
          refine ej_takes [ow 3 1 enInt A19 c19 (res ++ [res.getD k 0]), ownB b5 (cellsB 117 [.slice A19 (res ++ [res.getD k 0]).length c19, .slice none 0 0]), ownB b4 (cellsB 117 [.slice none 0 0, .slice none 0 0]), ownB b2 (cellsB 117 [.slice Ar res.length cr, .slice Av vs.length cv])] ?_
          exact ej_ct (b5, A19, c19) trivial ⟨rfl, rfl, rfl, rfl, trivial⟩
      · refine oj_alloc Try.zeroValue117 rfl rfl (fun b5 => ?_)
        refine oj_nil ?_
        refine ej_pl (lt_y (y_ld0 (reads_sl) Try.isAgg3 rfl (hxk) rfl) rfl (lt_y (y_ixR (reads_sl) Try.underlying43 Try.sizeOf3 rfl rfl (⟨by omega, by omega⟩)) rfl (lt_y (y_move rfl) rfl (lt_y (y_load1 Try.isAgg43 rfl rfl) rfl (lt_y (y_fa0 fa60_0 rfl) rfl (lt_y (y_fa0 fa117_0 rfl) rfl (lt_y (y_load1 Try.isAgg43 rfl rfl) rfl (lt_y (y_fa0 fa60_0 rfl) rfl (lt_y (y_fa0 fa117_0 rfl) rfl (lt_nil)))))))))) ?_
        refine pl_w1 3 (by kernel_rfl) rfl rfl (pl_fire rfl rfl rfl (by kernel_rfl) ?_)
        refine oj_callO (fun B d => .slice B (res).length d) 3 1 enInt (res) Try.call69 rfl (fun w hp => k_CloneI (res) Ar cr w hp.rd (by omega)) rfl (fun B11 e11 => ?_)
        refine oj_nil ?_
        refine ej_pl (lt_y (y_ld0 (reads_sl) Try.isAgg3 rfl (hxk) rfl) rfl (lt_y (y_ixR (reads_sl) Try.underlying43 Try.sizeOf3 rfl rfl (⟨by omega, by omega⟩)) rfl (lt_y (y_move rfl) rfl (lt_y (y_load1 Try.isAgg43 rfl rfl) rfl (lt_y (y_fa0 fa60_0 rfl) rfl (lt_y (y_fa0 fa117_0 rfl) rfl (lt_w (by kernel_rfl) (lt_y (y_fa0 fa60_0 rfl) rfl (lt_y (y_fa0 fa117_0 rfl) rfl (lt_nil)))))))))) ?_
        refine pl_w1 11 (by kernel_rfl) rfl rfl (pl_fire rfl rfl rfl (by kernel_rfl) ?_)
        refine oj_append  el43 (fun _ => rfl) enInt_one rfl rfl rfl (reads_lit [res.getD k 0] (fun _ => rfl) rfl) (by unfold maxLen; simp only [List.length_append, List.length_cons, List.length_nil]; omega) (by simp only [List.length_append, List.length_cons, List.length_nil]; omega) rfl (fun A19 c19 => ?_)
        refine oj_nil ?_
        refine ej_pl (lt_y (y_ld0 (reads_sl) Try.isAgg3 rfl (hxk) rfl) rfl (lt_y (y_ixR (reads_sl) Try.underlying43 Try.sizeOf3 rfl rfl (⟨by omega, by omega⟩)) rfl (lt_y (y_move rfl) rfl (lt_y (y_load1 Try.isAgg43 rfl rfl) rfl (lt_y (y_fa0 fa60_0 rfl) rfl (lt_y (y_fa0 fa117_0 rfl) rfl (lt_y (y_load1 Try.isAgg43 rfl rfl) rfl (lt_y (y_fa0 fa60_0 rfl) rfl (lt_y (y_fa0 fa117_0 rfl) rfl (lt_nil)))))))))) ?_
        refine pl_y 12 rfl (y_build (cs := [.slice A19 (res ++ [res.getD k 0]).length c19, .slice none 0 0]) st60 rfl (by kernel_rfl)) rfl rfl rfl rfl (by kernel_rfl) ?_
        refine pl_y 13 rfl (y_build (cs := [.slice A19 (res ++ [res.getD k 0]).length c19, .slice none 0 0]) st117 rfl (by kernel_rfl)) rfl rfl rfl rfl (by kernel_rfl) ?_
        refine pl_w1 15 (by kernel_rfl) rfl rfl (pl_fire rfl rfl rfl (by kernel_rfl) ?_)
        refine oj_store rfl rfl rfl rfl Try.sizeOf117 rfl ?_
        refine oj_nil ?_
        refine ej_pl (lt_w (by kernel_rfl) (lt_w (by kernel_rfl) (lt_w (by kernel_rfl) (lt_w (by kernel_rfl) (lt_w (by kernel_rfl) (lt_w (by kernel_rfl) (lt_w (by kernel_rfl) (lt_w (by kernel_rfl) (lt_w (by kernel_rfl) (lt_w (by kernel_rfl) (lt_w (by kernel_rfl) (lt_nil)))))))))))) ?_
        refine pl_end (by kernel_rfl) ?_
        refine ej_takes [ow 3 1 enInt A19 c19 (res ++ [res.getD k 0]), ownB b5 (cellsB 117 [.slice A19 (res ++ [res.getD k 0]).length c19, .slice none 0 0]), ownB b4 (cellsB 117 [.slice none 0 0, .slice none 0 0]), ownB b2 (cellsB 117 [.slice Ar res.length cr, .slice Av vs.length cv])] ?_
        exact ej_ct (b5, A19, c19) trivial ⟨rfl, rfl, rfl, rfl, trivial⟩
    · refine oj_alloc Try.zeroValue117 rfl rfl (fun b5 => ?_)
      refine oj_nil ?_
      refine ej_pl (lt_y (y_ld0 (reads_sl) Try.isAgg3 rfl (hxk) rfl) rfl (lt_y (y_ixR (reads_sl) Try.underlying43 Try.sizeOf3 rfl rfl (⟨by omega, by omega⟩)) rfl (lt_y (y_move rfl) rfl (lt_y (y_load1 Try.isAgg43 rfl rfl) rfl (lt_y (y_fa0 fa60_0 rfl) rfl (lt_y (y_fa0 fa117_0 rfl) rfl (lt_y (y_load1 Try.isAgg43 rfl rfl) rfl (lt_y (y_fa0 fa60_0 rfl) rfl (lt_y (y_fa0 fa117_0 rfl) rfl (lt_nil)))))))))) ?_
      refine pl_w2 3 10 (by kernel_rfl) rfl rfl (pl_fire rfl rfl rfl (by kernel_rfl) ?_) (pl_fire rfl rfl rfl (by kernel_rfl) ?_)
      · refine oj_callO (fun B d => .slice B (res).length d) 3 1 enInt (res) Try.call69 rfl (fun w hp => k_CloneI (res) Ar cr w hp.rd (by omega)) rfl (fun B11 e11 => ?_)
        refine oj_nil ?_
        refine ej_pl (lt_y (y_ld0 (reads_sl) Try.isAgg3 rfl (hxk) rfl) rfl (lt_y (y_ixR (reads_sl) Try.underlying43 Try.sizeOf3 rfl rfl (⟨by omega, by omega⟩)) rfl (lt_y (y_move rfl) rfl (lt_y (y_load1 Try.isAgg43 rfl rfl) rfl (lt_y (y_fa0 fa60_0 rfl) rfl (lt_y (y_fa0 fa117_0 rfl) rfl (lt_w (by kernel_rfl) (lt_y (y_fa0 fa60_0 rfl) rfl (lt_y (y_fa0 fa117_0 rfl) rfl (lt_nil)))))))))) ?_
        refine pl_w1 10 (by kernel_rfl) rfl rfl (pl_fire rfl rfl rfl (by kernel_rfl) ?_)
        refine oj_buildSlice (cs := [.int .i64 (res.getD k 0)]) [.int .i64 0] Try.underlying43 Try.sizeOf3 Try.zeroValue3 rfl rfl (by kernel_rfl) (by kernel_rfl) rfl (fun b18 => ?_)
        refine oj_nil ?_
        refine ej_pl (lt_w (by kernel_rfl) (lt_y (y_ixR (reads_sl) Try.underlying43 Try.sizeOf3 rfl rfl (⟨by omega, by omega⟩)) rfl (lt_y (y_move rfl) rfl (lt_y (y_load1 Try.isAgg43 rfl rfl) rfl (lt_y (y_fa0 fa60_0 rfl) rfl (lt_y (y_fa0 fa117_0 rfl) rfl (lt_y (y_load1 Try.isAgg43 rfl rfl) rfl (lt_y (y_fa0 fa60_0 rfl) rfl (lt_y (y_fa0 fa117_0 rfl) rfl (lt_nil)))))))))) ?_
        refine pl_w1 11 (by kernel_rfl) rfl rfl (pl_fire rfl rfl rfl (by kernel_rfl) ?_)
        refine oj_append  el43 (fun _ => rfl) enInt_one rfl rfl rfl (reads_lit [res.getD k 0] (fun _ => rfl) rfl) (by unfold maxLen; simp only [List.length_append, List.length_cons, List.length_nil]; omega) (by simp only [List.length_append, List.length_cons, List.length_nil]; omega) rfl (fun A19 c19 => ?_)
        refine oj_nil ?_
        refine ej_pl (lt_y (y_ld0 (reads_sl) Try.isAgg3 rfl (hxk) rfl) rfl (lt_y (y_ixR (reads_sl) Try.underlying43 Try.sizeOf3 rfl rfl (⟨by omega, by omega⟩)) rfl (lt_y (y_move rfl) rfl (lt_y (y_load1 Try.isAgg43 rfl rfl) rfl (lt_y (y_fa0 fa60_0 rfl) rfl (lt_y (y_fa0 fa117_0 rfl) rfl (lt_y (y_load1 Try.isAgg43 rfl rfl) rfl (lt_y (y_fa0 fa60_0 rfl) rfl (lt_y (y_fa0 fa117_0 rfl) rfl (lt_nil)))))))))) ?_
        refine pl_y 12 rfl (y_build (cs := [.slice A19 (res ++ [res.getD k 0]).length c19, .slice none 0 0]) st60 rfl (by kernel_rfl)) rfl rfl rfl rfl (by kernel_rfl) ?_
        refine pl_y 13 rfl (y_build (cs := [.slice A19 (res ++ [res.getD k 0]).length c19, .slice none 0 0]) st117 rfl (by kernel_rfl)) rfl rfl rfl rfl (by kernel_rfl) ?_
        refine pl_w1 15 (by kernel_rfl) rfl rfl (pl_fire rfl rfl rfl (by kernel_rfl) ?_)
        refine oj_store rfl rfl rfl rfl Try.sizeOf117 rfl ?_
        refine oj_nil ?_
        refine ej_pl (lt_w (by kernel_rfl) (lt_w (by kernel_rfl) (lt_w (by kernel_rfl) (lt_w (by kernel_rfl) (lt_w (by kernel_rfl) (lt_w (by kernel_rfl) (lt_w (by kernel_rfl) (lt_w (by kernel_rfl) (lt_w (by kernel_rfl) (lt_w (by kernel_rfl) (lt_w (by kernel_rfl) (lt_nil)))))))))))) ?_
        refine pl_end (by kernel_rfl) ?_
        refine ej_takes [ow 3 1 enInt A19 c19 (res ++ [res.getD k 0]), ownB b5 (cellsB 117 [.slice A19 (res ++ [res.getD k 0]).length c19, .slice none 0 0]), ownB b4 (cellsB 117 [.slice none 0 0, .slice none 0 0]), ownB b2 (cellsB 117 [.slice Ar res.length cr, .slice Av vs.length cv])] ?_
        exact ej_ct (b5, A19, c19) trivial ⟨rfl, rfl, rfl, rfl, trivial⟩
      · refine oj_buildSlice (cs := [.int .i64 (res.getD k 0)]) [.int .i64 0] Try.underlying43 Try.sizeOf3 Try.zeroValue3 rfl rfl (by kernel_rfl) (by kernel_rfl) rfl (fun b18 => ?_)
        refine oj_nil ?_
        refine ej_pl (lt_w (by kernel_rfl) (lt_y (y_ixR (reads_sl) Try.underlying43 Try.sizeOf3 rfl rfl (⟨by omega, by omega⟩)) rfl (lt_y (y_move rfl) rfl (lt_y (y_load1 Try.isAgg43 rfl rfl) rfl (lt_y (y_fa0 fa60_0 rfl) rfl (lt_y (y_fa0 fa117_0 rfl) rfl (lt_y (y_load1 Try.isAgg43 rfl rfl) rfl (lt_y (y_fa0 fa60_0 rfl) rfl (lt_y (y_fa0 fa117_0 rfl) rfl (lt_nil)))))))))) ?_
        refine pl_w1 3 (by kernel_rfl) rfl rfl (pl_fire rfl rfl rfl (by kernel_rfl) ?_)
        refine oj_callO (fun B d => .slice B (res).length d) 3 1 enInt (res) Try.call69 rfl (fun w hp => k_CloneI (res) Ar cr w hp.rd (by omega)) rfl (fun B11 e11 => ?_)
        refine oj_nil ?_
        refine ej_pl (lt_y (y_ld0 (reads_sl) Try.isAgg3 rfl (hxk) rfl) rfl (lt_y (y_ixR (reads_sl) Try.underlying43 Try.sizeOf3 rfl rfl (⟨by omega, by omega⟩)) rfl (lt_y (y_move rfl) rfl (lt_y (y_load1 Try.isAgg43 rfl rfl) rfl (lt_y (y_fa0 fa60_0 rfl) rfl (lt_y (y_fa0 fa117_0 rfl) rfl (lt_w (by kernel_rfl) (lt_y (y_fa0 fa60_0 rfl) rfl (lt_y (y_fa0 fa117_0 rfl) rfl (lt_nil)))))))))) ?_
        refine pl_w1 11 (by kernel_rfl) rfl rfl (pl_fire rfl rfl rfl (by kernel_rfl) ?_)
        refine oj_append  el43 (fun _ => rfl) enInt_one rfl rfl rfl (reads_lit [res.getD k 0] (fun _ => rfl) rfl) (by unfold maxLen; simp only [List.length_append, List.length_cons, List.length_nil]; omega) (by simp only [List.length_append, List.length_cons, List.length_nil]; omega) rfl (fun A19 c19 => ?_)
        refine oj_nil ?_
        refine ej_pl (lt_y (y_ld0 (reads_sl) Try.isAgg3 rfl (hxk) rfl) rfl (lt_y (y_ixR (reads_sl) Try.underlying43 Try.sizeOf3 rfl rfl (⟨by omega, by omega⟩)) rfl (lt_y (y_move rfl) rfl (lt_y (y_load1 Try.isAgg43 rfl rfl) rfl (lt_y (y_fa0 fa60_0 rfl) rfl (lt_y (y_fa0 fa117_0 rfl) rfl (lt_y (y_load1 Try.isAgg43 rfl rfl) rfl (lt_y (y_fa0 fa60_0 rfl) rfl (lt_y (y_fa0 fa117_0 rfl) rfl (lt_nil)))))))))) ?_
        refine pl_y 12 rfl (y_build (cs := [.slice A19 (res ++ [res.getD k 0]).length c19, .slice none 0 0]) st60 rfl (by kernel_rfl)) rfl rfl rfl rfl (by kernel_rfl) ?_
        refine pl_y 13 rfl (y_build (cs := [.slice A19 (res ++ [res.getD k 0]).length c19, .slice none 0 0]) st117 rfl (by kernel_rfl)) rfl rfl rfl rfl (by kernel_rfl) ?_
        refine pl_w1 15 (by kernel_rfl) rfl rfl (pl_fire rfl rfl rfl (by kernel_rfl) ?_)
        refine oj_store rfl rfl rfl rfl Try.sizeOf117 rfl ?_
        refine oj_nil ?_
        refine ej_pl (lt_w (by kernel_rfl) (lt_w (by kernel_rfl) (lt_w (by kernel_rfl) (lt_w (by kernel_rfl) (lt_w (by kernel_rfl) (lt_w (by kernel_rfl) (lt_w (by kernel_rfl) (lt_w (by kernel_rfl) (lt_w (by kernel_rfl) (lt_w (by kernel_rfl) (lt_w (by kernel_rfl) (lt_nil)))))))))))) ?_
        refine pl_end (by kernel_rfl) ?_
        refine ej_takes [ow 3 1 enInt A19 c19 (res ++ [res.getD k 0]), ownB b5 (cellsB 117 [.slice A19 (res ++ [res.getD k 0]).length c19, .slice none 0 0]), ownB b4 (cellsB 117 [.slice none 0 0, .slice none 0 0]), ownB b2 (cellsB 117 [.slice Ar res.length cr, .slice Av vs.length cv])] ?_
        exact ej_ct (b5, A19, c19) trivial ⟨rfl, rfl, rfl, rfl, trivial⟩
  · rintro ⟨b5, A19, c19⟩ -
    dsimp only [List.cons_append, List.nil_append]
    refine cj_seq (cj_seq ?_)
    refine cj_regionG (gj_step (y_fa0 fa117_0 rfl) rfl rfl rfl (gj_step (y_fa fa60_1 rfl) rfl rfl rfl (gj_step (y_load1 Try.isAgg58 rfl rfl) rfl rfl rfl (gj_step (y_lenA Try.underlying58 rfl) rfl rfl rfl (gj_step (y_move rfl) rfl rfl rfl (gj_nil ?_))))))
    refine ej_th (cj_block ?_)
    refine cj_ownNil 43 1 encLs ?_
    refine cj_addS (rwF (fun _ => False) []) (fun w hp => ⟨fun z hz => (by cases hz), fun i hi => hi.elim⟩) ?_
    refine cj_eqO [ow 43 1 encLs none 0 ([] : List ListV), ow 3 1 enInt A19 c19 (res ++ [res.getD k 0]), ownB b5 (cellsB 117 [.slice A19 (res ++ [res.getD k 0]).length c19, .slice none ([] : List ListV).length 0]), ownB b4 (cellsB 117 [.slice none 0 0, .slice none 0 0]), ownB b2 (cellsB 117 [.slice Ar res.length cr, .slice Av vs.length cv])] rfl ?_
    refine cj_lpi (X := Nat × (Option Addr × Nat × List ListV) × (Nat → Prop)) [(5, _), (1, _), (4, _), (24, _), (25, _)] (fun ⟨i, ⟨A6, c6, rows⟩, fp⟩ => i ≤ vs.length ∧ rows.length = i ∧ rowsV rows = withV ((rowsV vs).take i) k ∧ ∀ b, fp b → w.heap.size ≤ b) (fun ⟨i, ⟨A6, c6, rows⟩, fp⟩ => [(26, .int .i64 i)]) (fun ⟨i, ⟨A6, c6, rows⟩, fp⟩ => [ow 43 1 encLs A6 c6 rows, ow 3 1 enInt A19 c19 (res ++ [res.getD k 0]), ownB b5 (cellsB 117 [.slice A19 (res ++ [res.getD k 0]).length c19, .slice A6 rows.length c6]), ownB b4 (cellsB 117 [.slice none 0 0, .slice none 0 0]), ownB b2 (cellsB 117 [.slice Ar res.length cr, .slice Av vs.length cv])]) (fun ⟨i, ⟨A6, c6, rows⟩, fp⟩ => [rwF fp rows, sl (fun b => b < w.heap.size) 1 enInt Ar res, sl (fun b => b < w.heap.size) 1 encLs Av vs]) (fun ⟨i, ⟨A6, c6, rows⟩, fp⟩ => vs.length - i) (0, (none, 0, []), fun _ => False) (⟨Nat.zero_le _, rfl, rfl, fun b hb => hb.elim⟩) ⟨rfl, rfl, rfl, rfl, rfl, rfl, trivial⟩ ?_
    rintro ⟨i, ⟨A6, c6, rows⟩, fp⟩ ⟨hi, hrl0, hrw, hfp⟩
    dsimp only [List.cons_append, List.nil_append]
    refine cj_seq ?_
    refine cj_regionG (gj_step (y_lss rfl rfl) rfl rfl rfl (gj_nil ?_))
    refine ej_th (cj_seq ?_)
    refine cj_cond rfl (fun h27 => ?_) (fun h27 => ?_)
    · have h27b := h27
      try simp only [sxb] at h27
      obtain ⟨r, hr⟩ : ∃ r, vs[i]? = some r := ⟨_, List.getElem?_eq_getElem (by omega)⟩
      have hgr := hgv r (List.mem_of_getElem? hr)
      have hrl := hgr.len
      refine cj_rd hgr (fun _ h => h) ?_
      have hrm : r.l.length = res.length := hco.len _ (List.mem_of_getElem? (rowsV_get hr))
      have hxr : r.l[((k : Nat) : Int).toNat]? = some (r.l.getD k 0) := by rw [show ((k : Nat) : Int).toNat = k by omega, List.getD_eq_getElem?_getD, List.getElem?_eq_getElem (by omega)]; rfl
      refine cj_skip (ej_th (cj_seq (cj_block (cj_seq ?_))))
      refine cj_regionG (gj_step (y_ixR (reads_sl) Try.underlying58 Try.sizeOf43 rfl rfl (⟨by omega, by omega⟩)) rfl rfl rfl (gj_step (y_ld0 (reads_sl) Try.isAgg43 rfl (hr) rfl) rfl rfl rfl (gj_step (y_assign rfl) rfl rfl rfl (gj_nil ?_))))
      refine ej_th ?_
      refine cj_plan 16 (by kernel_rfl) (by kernel_rfl) ?_
      refine pl_y 0 rfl (y_fa0 fa117_0 rfl) rfl rfl rfl rfl (by kernel_rfl) ?_
      refine pl_y 1 rfl (y_fa fa60_1 rfl) rfl rfl rfl rfl (by kernel_rfl) ?_
      refine pl_y 2 rfl (y_load1 Try.isAgg58 rfl rfl) rfl rfl rfl rfl (by kernel_rfl) ?_
      refine pl_y 3 rfl (y_move rfl) rfl rfl rfl rfl (by kernel_rfl) ?_
      refine pl_y 5 rfl (y_move rfl) rfl rfl rfl rfl (by kernel_rfl) ?_
      refine pl_y 6 rfl (y_move rfl) rfl rfl rfl rfl (by kernel_rfl) ?_
      refine pl_y 7 rfl (y_ixR (reads_sl) Try.underlying43 Try.sizeOf3 rfl rfl (⟨by omega, by omega⟩)) rfl rfl rfl rfl (by kernel_rfl) ?_
      refine pl_y 8 rfl (y_ld0 (reads_sl) Try.isAgg3 rfl (hxr) rfl) rfl rfl rfl rfl (by kernel_rfl) ?_
      refine pl_w2 4 9 (by kernel_rfl) rfl rfl (pl_fire rfl rfl rfl (by kernel_rfl) ?_) (pl_fire rfl rfl rfl (by kernel_rfl) ?_)
      · refine oj_callO (fun B d => .slice B (r.l).length d) 3 1 enInt (r.l) Try.call69 rfl (fun w hp => k_CloneI (r.l) r.A r.c w hp.rd (by omega)) rfl (fun B34 e34 => ?_)
        refine oj_nil ?_
        refine ej_pl (lt_y (y_ld0 (reads_sl) Try.isAgg3 rfl (hxr) rfl) rfl (lt_y (y_ixR (reads_sl) Try.underlying43 Try.sizeOf3 rfl rfl (⟨by omega, by omega⟩)) rfl (lt_y (y_move rfl) rfl (lt_y (y_move rfl) rfl (lt_w (by kernel_rfl) (lt_y (y_load1 Try.isAgg58 rfl rfl) rfl (lt_y (y_fa fa60_1 rfl) rfl (lt_y (y_fa0 fa117_0 rfl) rfl (lt_nil))))))))) ?_
        refine pl_w1 9 (by kernel_rfl) rfl rfl (pl_fire rfl rfl rfl (by kernel_rfl) ?_)
        refine oj_buildSlice (cs := [.int .i64 (r.l.getD k 0)]) [.int .i64 0] Try.underlying43 Try.sizeOf3 Try.zeroValue3 rfl rfl (by kernel_rfl) (by kernel_rfl) rfl (fun b39 => ?_)
        refine oj_nil ?_
        refine ej_pl (lt_w (by kernel_rfl) (lt_y (y_ixR (reads_sl) Try.underlying43 Try.sizeOf3 rfl rfl (⟨by omega, by omega⟩)) rfl (lt_y (y_move rfl) rfl (lt_y (y_move rfl) rfl (lt_y (y_move rfl) rfl (lt_y (y_load1 Try.isAgg58 rfl rfl) rfl (lt_y (y_fa fa60_1 rfl) rfl (lt_y (y_fa0 fa117_0 rfl) rfl (lt_nil))))))))) ?_
        refine pl_w1 10 (by kernel_rfl) rfl rfl (pl_fire rfl rfl rfl (by kernel_rfl) ?_)
        refine oj_append  el43 (fun _ => rfl) enInt_one rfl rfl rfl (reads_lit [r.l.getD k 0] (fun _ => rfl) rfl) (by unfold maxLen; simp only [List.length_append, List.length_cons, List.length_nil]; omega) (by simp only [List.length_append, List.length_cons, List.length_nil]; omega) rfl (fun A40 c40 => ?_)
        refine oj_nil ?_
        refine ej_pl (lt_y (y_ld0 (reads_sl) Try.isAgg3 rfl (hxr) rfl) rfl (lt_y (y_ixR (reads_sl) Try.underlying43 Try.sizeOf3 rfl rfl (⟨by omega, by omega⟩)) rfl (lt_y (y_move rfl) rfl (lt_y (y_move rfl) rfl (lt_y (y_move rfl) rfl (lt_y (y_load1 Try.isAgg58 rfl rfl) rfl (lt_y (y_fa fa60_1 rfl) rfl (lt_y (y_fa0 fa117_0 rfl) rfl (lt_nil))))))))) ?_
        refine pl_w1 11 (by kernel_rfl) rfl rfl (pl_fire rfl rfl rfl (by kernel_rfl) ?_)
        refine oj_buildSlice (cs := [.slice A40 (r.l ++ [r.l.getD k 0]).length c40]) [.slice none 0 0] Try.underlying58 Try.sizeOf43 Try.zeroValue43 rfl rfl (by kernel_rfl) (by kernel_rfl) rfl (fun b41 => ?_)
        refine oj_nil ?_
        refine ej_pl (lt_y (y_ld0 (reads_sl) Try.isAgg3 rfl (hxr) rfl) rfl (lt_y (y_ixR (reads_sl) Try.underlying43 Try.sizeOf3 rfl rfl (⟨by omega, by omega⟩)) rfl (lt_y (y_move rfl) rfl (lt_y (y_move rfl) rfl (lt_y (y_move rfl) rfl (lt_y (y_load1 Try.isAgg58 rfl rfl) rfl (lt_y (y_fa fa60_1 rfl) rfl (lt_y (y_fa0 fa117_0 rfl) rfl (lt_nil))))))))) ?_
        refine pl_w1 12 (by kernel_rfl) rfl rfl (pl_fire rfl rfl rfl (by kernel_rfl) ?_)
        refine oj_append  el58 (fun _ => rfl) encLs_one rfl rfl rfl (reads_lit [(⟨A40, c40, (r.l ++ [r.l.getD k 0])⟩ : ListV)] (fun _ => rfl) rfl) (by unfold maxLen; simp only [List.length_append, List.length_cons, List.length_nil]; omega) (by simp only [List.length_append, List.length_cons, List.length_nil]; omega) rfl (fun A42 c42 => ?_)
        refine oj_nil ?_
        refine ej_pl (lt_y (y_ld0 (reads_sl) Try.isAgg3 rfl (hxr) rfl) rfl (lt_y (y_ixR (reads_sl) Try.underlying43 Try.sizeOf3 rfl rfl (⟨by omega, by omega⟩)) rfl (lt_y (y_move rfl) rfl (lt_y (y_move rfl) rfl (lt_y (y_move rfl) rfl (lt_w (by kernel_rfl) (lt_y (y_fa fa60_1 rfl) rfl (lt_y (y_fa0 fa117_0 rfl) rfl (lt_nil))))))))) ?_
        refine pl_y 13 rfl (y_fa0 fa117_0 rfl) rfl rfl rfl rfl (by kernel_rfl) ?_
        refine pl_y 14 rfl (y_fa fa60_1 rfl) rfl rfl rfl rfl (by kernel_rfl) ?_
        refine pl_w1 15 (by kernel_rfl) rfl rfl (pl_fire rfl rfl rfl (by kernel_rfl) ?_)
        refine oj_store rfl rfl rfl rfl Try.sizeOf58 rfl ?_
        refine oj_nil ?_
        refine ej_pl (lt_w (by kernel_rfl) (lt_y (y_fa0 fa117_0 rfl) rfl (lt_w (by kernel_rfl) (lt_w (by kernel_rfl) (lt_w (by kernel_rfl) (lt_w (by kernel_rfl) (lt_w (by kernel_rfl) (lt_w (by kernel_rfl) (lt_w (by kernel_rfl) (lt_w (by kernel_rfl) (lt_nil))))))))))) ?_
        refine pl_end (by kernel_rfl) ?_
        refine ej_blk (ej_th ?_)
        refine cj_regionG (gj_step (y_add rfl rfl (by omega)) rfl rfl rfl (gj_step (y_move rfl) rfl rfl rfl (gj_nil ?_)))
        refine ej_frz (ow 3 1 enInt A40 c40 (r.l ++ [r.l.getD k 0])) (rwF (fun b => (fp b ∨ (ow 3 1 enInt A40 c40 (r.l ++ [r.l.getD k 0])).fp b) ∧ w.heap.size ≤ b) (rows ++ [(⟨A40, c40, (r.l ++ [r.l.getD k 0])⟩ : ListV)])) (O' := [ow 43 1 encLs A42 c42 (rows ++ [(⟨A40, c40, (r.l ++ [r.l.getD k 0])⟩ : ListV)]), ow 3 1 enInt A19 c19 (res ++ [res.getD k 0]), ownB b5 (cellsB 117 [.slice A19 (res ++ [res.getD k 0]).length c19, .slice A42 (rows ++ [(⟨A40, c40, (r.l ++ [r.l.getD k 0])⟩ : ListV)]).length c42]), ownB b4 (cellsB 117 [.slice none 0 0, .slice none 0 0]), ownB b2 (cellsB 117 [.slice Ar res.length cr, .slice Av vs.length cv])]) (fun w1 hp => rows_new hp hfp (by unfold maxLen; simp only [List.length_append, List.length_cons, List.length_nil]; omega) (.tail _ (.head _)) (by simp)) (fun b hb => ?_) ?_
        · rcases hb.1 with hb | hb
          · exact .inr ⟨rwF fp rows, .tail _ (.head _), hb⟩
          · exact .inl hb
        exact ej_nx (i + 1, (A42, c42, rows ++ [(⟨A40, c40, (r.l ++ [r.l.getD k 0])⟩ : ListV)]), (fun b => (fp b ∨ (ow 3 1 enInt A40 c40 (r.l ++ [r.l.getD k 0])).fp b) ∧ w.heap.size ≤ b)) (by simp only; omega) ⟨by first | omega | (simp only; omega), by simp only [List.length_append, List.length_cons, List.length_nil]; omega, withV_snoc hr rows A40 c40 hrw, fun b hb => hb.2⟩ ⟨rfl, rfl, rfl, rfl, rfl, rfl, trivial⟩
      · refine oj_buildSlice (cs := [.int .i64 (r.l.getD k 0)]) [.int .i64 0] Try.underlying43 Try.sizeOf3 Try.zeroValue3 rfl rfl (by kernel_rfl) (by kernel_rfl) rfl (fun b39 => ?_)
        refine oj_nil ?_
        refine ej_pl (lt_w (by kernel_rfl) (lt_y (y_ixR (reads_sl) Try.underlying43 Try.sizeOf3 rfl rfl (⟨by omega, by omega⟩)) rfl (lt_y (y_move rfl) rfl (lt_y (y_move rfl) rfl (lt_y (y_move rfl) rfl (lt_y (y_load1 Try.isAgg58 rfl rfl) rfl (lt_y (y_fa fa60_1 rfl) rfl (lt_y (y_fa0 fa117_0 rfl) rfl (lt_nil))))))))) ?_
        refine pl_w1 4 (by kernel_rfl) rfl rfl (pl_fire rfl rfl rfl (by kernel_rfl) ?_)
        refine oj_callO (fun B d => .slice B (r.l).length d) 3 1 enInt (r.l) Try.call69 rfl (fun w hp => k_CloneI (r.l) r.A r.c w hp.rd (by omega)) rfl (fun B34 e34 => ?_)
        refine oj_nil ?_
        refine ej_pl (lt_y (y_ld0 (reads_sl) Try.isAgg3 rfl (hxr) rfl) rfl (lt_y (y_ixR (reads_sl) Try.underlying43 Try.sizeOf3 rfl rfl (⟨by omega, by omega⟩)) rfl (lt_y (y_move rfl) rfl (lt_y (y_move rfl) rfl (lt_w (by kernel_rfl) (lt_y (y_load1 Try.isAgg58 rfl rfl) rfl (lt_y (y_fa fa60_1 rfl) rfl (lt_y (y_fa0 fa117_0 rfl) rfl (lt_nil))))))))) ?_
        refine pl_w1 10 (by kernel_rfl) rfl rfl (pl_fire rfl rfl rfl (by kernel_rfl) ?_)
        refine oj_append  el43 (fun _ => rfl) enInt_one rfl rfl rfl (reads_lit [r.l.getD k 0] (fun _ => rfl) rfl) (by unfold maxLen; simp only [List.length_append, List.length_cons, List.length_nil]; omega) (by simp only [List.length_append, List.length_cons, List.length_nil]; omega) rfl (fun A40 c40 => ?_)
        refine oj_nil ?_
        refine ej_pl (lt_y (y_ld0 (reads_sl) Try.isAgg3 rfl (hxr) rfl) rfl (lt_y (y_ixR (reads_sl) Try.underlying43 Try.sizeOf3 rfl rfl (⟨by omega, by omega⟩)) rfl (lt_y (y_move rfl) rfl (lt_y (y_move rfl) rfl (lt_y (y_move rfl) rfl (lt_y (y_load1 Try.isAgg58 rfl rfl) rfl (lt_y (y_fa fa60_1 rfl) rfl (lt_y (y_fa0 fa117_0 rfl) rfl (lt_nil))))))))) ?_
        refine pl_w1 11 (by kernel_rfl) rfl rfl (pl_fire rfl rfl rfl (by kernel_rfl) ?_)
        refine oj_buildSlice (cs := [.slice A40 (r.l ++ [r.l.getD k 0]).length c40]) [.slice none 0 0] Try.underlying58 Try.sizeOf43 Try.zeroValue43 rfl rfl (by kernel_rfl) (by kernel_rfl) rfl (fun b41 => ?_)
        refine oj_nil ?_
        refine ej_pl (lt_y (y_ld0 (reads_sl) Try.isAgg3 rfl (hxr) rfl) rfl (lt_y (y_ixR (reads_sl) Try.underlying43 Try.sizeOf3 rfl rfl (⟨by omega, by omega⟩)) rfl (lt_y (y_move rfl) rfl (lt_y (y_move rfl) rfl (lt_y (y_move rfl) rfl (lt_y (y_load1 Try.isAgg58 rfl rfl) rfl (lt_y (y_fa fa60_1 rfl) rfl (lt_y (y_fa0 fa117_0 rfl) rfl (lt_nil))))))))) ?_
        refine pl_w1 12 (by kernel_rfl) rfl rfl (pl_fire rfl rfl rfl (by kernel_rfl) ?_)
        refine oj_append  el58 (fun _ => rfl) encLs_one rfl rfl rfl (reads_lit [(⟨A40, c40, (r.l ++ [r.l.getD k 0])⟩ : ListV)] (fun _ => rfl) rfl) (by unfold maxLen; simp only [List.length_append, List.length_cons, List.length_nil]; omega) (by simp only [List.length_append, List.length_cons, List.length_nil]; omega) rfl (fun A42 c42 => ?_)
        refine oj_nil ?_
        refine ej_pl (lt_y (y_ld0 (reads_sl) Try.isAgg3 rfl (hxr) rfl) rfl (lt_y (y_ixR (reads_sl) Try.underlying43 Try.sizeOf3 rfl rfl (⟨by omega, by omega⟩)) rfl (lt_y (y_move rfl) rfl (lt_y (y_move rfl) rfl (lt_y (y_move rfl) rfl (lt_w (by kernel_rfl) (lt_y (y_fa fa60_1 rfl) rfl (lt_y (y_fa0 fa117_0 rfl) rfl (lt_nil))))))))) ?_
        refine pl_y 13 rfl (y_fa0 fa117_0 rfl) rfl rfl rfl rfl (by kernel_rfl) ?_
        refine pl_y 14 rfl (y_fa fa60_1 rfl) rfl rfl rfl rfl (by kernel_rfl) ?_
        refine pl_w1 15 (by kernel_rfl) rfl rfl (pl_fire rfl rfl rfl (by kernel_rfl) ?_)
        refine oj_store rfl rfl rfl rfl Try.sizeOf58 rfl ?_
        refine oj_nil ?_
        refine ej_pl (lt_w (by kernel_rfl) (lt_y (y_fa0 fa117_0 rfl) rfl (lt_w (by kernel_rfl) (lt_w (by kernel_rfl) (lt_w (by kernel_rfl) (lt_w (by kernel_rfl) (lt_w (by kernel_rfl) (lt_w (by kernel_rfl) (lt_w (by kernel_rfl) (lt_w (by kernel_rfl) (lt_nil))))))))))) ?_
        refine pl_end (by kernel_rfl) ?_
        refine ej_blk (ej_th ?_)
        refine cj_regionG (gj_step (y_add rfl rfl (by omega)) rfl rfl rfl (gj_step (y_move rfl) rfl rfl rfl (gj_nil ?_)))
        refine ej_frz (ow 3 1 enInt A40 c40 (r.l ++ [r.l.getD k 0])) (rwF (fun b => (fp b ∨ (ow 3 1 enInt A40 c40 (r.l ++ [r.l.getD k 0])).fp b) ∧ w.heap.size ≤ b) (rows ++ [(⟨A40, c40, (r.l ++ [r.l.getD k 0])⟩ : ListV)])) (O' := [ow 43 1 encLs A42 c42 (rows ++ [(⟨A40, c40, (r.l ++ [r.l.getD k 0])⟩ : ListV)]), ow 3 1 enInt A19 c19 (res ++ [res.getD k 0]), ownB b5 (cellsB 117 [.slice A19 (res ++ [res.getD k 0]).length c19, .slice A42 (rows ++ [(⟨A40, c40, (r.l ++ [r.l.getD k 0])⟩ : ListV)]).length c42]), ownB b4 (cellsB 117 [.slice none 0 0, .slice none 0 0]), ownB b2 (cellsB 117 [.slice Ar res.length cr, .slice Av vs.length cv])]) (fun w1 hp => rows_new hp hfp (by unfold maxLen; simp only [List.length_append, List.length_cons, List.length_nil]; omega) (.tail _ (.head _)) (by simp)) (fun b hb => ?_) ?_
        · rcases hb.1 with hb | hb
          · exact .inr ⟨rwF fp rows, .tail _ (.head _), hb⟩
          · exact .inl hb
        exact ej_nx (i + 1, (A42, c42, rows ++ [(⟨A40, c40, (r.l ++ [r.l.getD k 0])⟩ : ListV)]), (fun b => (fp b ∨ (ow 3 1 enInt A40 c40 (r.l ++ [r.l.getD k 0])).fp b) ∧ w.heap.size ≤ b)) (by simp only; omega) ⟨by first | omega | (simp only; omega), by simp only [List.length_append, List.length_cons, List.length_nil]; omega, withV_snoc hr rows A40 c40 hrw, fun b hb => hb.2⟩ ⟨rfl, rfl, rfl, rfl, rfl, rfl, trivial⟩
    · have h27b := h27
      try simp only [sxb] at h27
      refine cj_exit (ej_then_exit (ej_then_exit (ej_blk_hit (ej_th (cj_seq (cj_region ?_))))))
      refine oj_step (y_loadN Try.isAgg117 Try.sizeOf117 rfl) rfl rfl rfl ?_
      refine oj_store rfl rfl rfl rfl Try.sizeOf117 rfl ?_
      refine oj_nil ?_
      refine ej_th (cj_ret ?_)
      have hie : i = vs.length := by omega
      subst hie
      rw [List.take_of_length_le (by rw [rowsV_len]; omega)] at hrw
      exact ej_retC1 rfl Try.results78 rfl (y_loadN Try.isAgg117 Try.sizeOf117 rfl) (fun w' hp => ⟨⟨⟨A19, c19, A6, c6, rows, w.heap.size, w'.heap.size⟩, hrw⟩, rfl, hp.below, by simp, by simp, fun g hg => with_facts hp hfp (by unfold maxLen; simp only [List.length_append, List.length_cons, List.length_nil]; omega) (by unfold maxLen; omega) (.tail _ (.head _)) (.head _) (.head _) g hg⟩)

end Go.Proofs.Ytehmifpofpifkaa
namespace Go.Proofs.Ytehmifpofpifkaa
open Go.Sx Go.RowKit Am
set_option maxRecDepth 20000
set_option maxHeartbeats 1000000 in
theorem k_Close (res : List Int) (Ar : Option Addr) (cr : Nat) (vs : List ListV) (Av : Option Addr) (cv : Nat) (w : World) (hres : Rd w 1 enInt Ar res) (hvs : Rd w 1 encLs Av vs) (hgv : ∀ r ∈ vs, GoodL w r) : Calls Try.prog 32 #[.agg #[.slice Ar res.length cr, .slice Av vs.length cv]] w (fun e w' => ∃ z : Option Addr × Nat × Option Addr × Nat × Nat × Nat, e = .returned (.tuple #[.agg #[.slice z.1 (CloA res vs).1.length z.2.1, .slice z.2.2.1 (CloA res vs).2.length z.2.2.2.1], .int .i64 (cloE res vs)]) ∧ Grow w w' ∧ (∀ g ∈ ([] : List Fact), g.P w' ∧ ∀ b, g.fp b → w.heap.size ≤ b ∧ b < w'.heap.size) ∧ ([] : List Fact).Pairwise (fun f g => ∀ b, f.fp b → ¬ g.fp b) ∧ (∀ g ∈ [sl (fun i => z.2.2.2.2.1 ≤ i ∧ i < z.2.2.2.2.2) 1 enInt z.1 (CloA res vs).1, sl (fun i => z.2.2.2.2.1 ≤ i ∧ i < z.2.2.2.2.2) 1 enInt z.2.2.1 (CloA res vs).2], g.P w' ∧ ∀ b, g.fp b → w.heap.size ≤ b ∧ b < w'.heap.size ∧ ∀ o ∈ ([] : List Fact), ¬ o.fp b)) := by
  have hlr := hres.len
  have hlv := hvs.len
  refine enter_pure (args := [.agg #[.slice Ar res.length cr, .slice Av vs.length cv]]) [sl (fun b => b < w.heap.size) 1 enInt Ar res, sl (fun b => b < w.heap.size) 1 encLs Av vs] Try.func32 rfl (by rw [Try.ntmps32]; simp) (fun g hg => by simp at hg; rcases hg with rfl | rfl; exact ⟨hres, fun _ h => h⟩; exact ⟨hvs, fun _ h => h⟩) ?_
  refine cj_seq (cj_region ?_)
  refine oj_box rfl rfl rfl (fun b1 => ?_)
  refine oj_alloc Try.zeroValue62 rfl rfl (fun b2 => ?_)
  refine oj_step (y_assign rfl) rfl rfl rfl ?_
  refine oj_nil ?_
  refine ej_th (cj_seq (cj_seq ?_))
  refine cj_regionG ?_
  refine gj_step (y_loadN Try.isAgg60 Try.sizeOf60 rfl) rfl rfl rfl (?_)
  refine gj_step (y_call Try.call40 rfl (fun w hp => k_CheckC res Ar cr vs Av cv w hp.rd hp.rd (fun r h => (hgv r h).mono hp.below))) rfl rfl rfl ?_
  refine gj_step (y_assign rfl) rfl rfl rfl (?_)
  refine gj_nil ?_
  refine ej_th (cj_seq ?_)
  refine cj_regionG (gj_step (y_move rfl) rfl rfl rfl (gj_step (y_neq rfl rfl) rfl rfl rfl (gj_nil ?_)))
  refine ej_th ?_
  refine cj_cond rfl (fun h14 => ?_) (fun h14 => ?_)
  · have h14b := h14
    try simp only [sxb] at h14
    obtain ⟨e1, e2⟩ := cloA_no (cloE_no h14b)
    refine cj_seq (cj_region ?_)
    refine oj_step (y_build st62 rfl rfl) rfl rfl rfl ?_
    refine oj_step (y_move rfl) rfl rfl rfl ?_
    refine oj_store rfl rfl rfl rfl Try.sizeOf62 rfl ?_
    refine oj_step (y_assign rfl) rfl rfl rfl ?_
    refine oj_nil ?_
    refine ej_th (cj_ret (ej_then_ret ?_))
    refine ej_retC2 rfl Try.results32 rfl (y_loadN Try.isAgg62 Try.sizeOf62 rfl) rfl (fun w' hp => ⟨(none, 0, none, 0, w.heap.size, w'.heap.size), by rw [e1, e2]; rfl, hp.below, by simp, by simp, by rw [e1]; exact nil_facts⟩)
  · have h14b := h14
    try simp only [sxb] at h14
    have hyes := cloE_0 h14b
    obtain ⟨hco, hc5, hc6⟩ := clo_ok hyes
    obtain ⟨e1, e2⟩ := cloA_yes hyes
    have hbl := (best_spec hco.nn.1 hco.nn.2).2.1
    rw [rowsV_len] at hbl
    refine cj_skip (ej_th (cj_seq (cj_region ?_)))
    refine oj_step (y_loadN Try.isAgg60 Try.sizeOf60 rfl) rfl rfl rfl ?_
    refine oj_step (y_build (cs := [.slice Ar res.length cr, .slice Av vs.length cv]) st117 rfl (by kernel_rfl)) rfl rfl rfl ?_
    refine oj_callO (fun B d => .tuple #[.slice B (bestF res (rowsV vs)).1.length d, .int .i64 (bestF res (rowsV vs)).2]) 3 1 enInt (bestF res (rowsV vs)).1 Try.call77 rfl (fun w hp => k_best res Ar cr vs Av cv w hp.rd hp.rd (fun r h => (hgv r h).mono hp.below) hco) rfl (fun B20 e20 => ?_)
    refine oj_step (y_move rfl) rfl rfl rfl ?_
    refine oj_step (y_extract rfl rfl) rfl rfl rfl ?_
    refine oj_step (y_extract rfl rfl) rfl rfl rfl ?_
    refine oj_step (y_assign rfl) rfl rfl rfl ?_
    refine oj_step (y_assign rfl) rfl rfl rfl ?_
    refine oj_nil ?_
    refine ej_th (cj_seq (cj_region ?_))
    refine oj_step (y_move rfl) rfl rfl rfl ?_
    refine oj_step (y_build (cs := [.slice B20 (bestF res (rowsV vs)).1.length e20, .slice none 0 0]) st62 rfl (by kernel_rfl)) rfl rfl rfl ?_
    refine oj_alloc Try.zeroValue62 rfl rfl (fun b7 => ?_)
    refine oj_store rfl rfl rfl rfl Try.sizeOf62 rfl ?_
    refine oj_nil ?_
    refine ej_th (cj_seq (cj_seq ?_))
    refine cj_regionG (gj_step (y_fa0 fa60_0 rfl) rfl rfl rfl (gj_step (y_load1 Try.isAgg43 rfl rfl) rfl rfl rfl (gj_step (y_lenA Try.underlying43 rfl) rfl rfl rfl (gj_step (y_move rfl) rfl rfl rfl (gj_nil ?_)))))
    refine ej_th (cj_block ?_)
    refine cj_ownNil 3 1 enInt ?_
    refine cj_takes [ow 3 1 enInt none 0 ([] : List Int), ow 3 1 enInt B20 e20 (bestF res (rowsV vs)).1, ownB b7 (cellsB 62 [.slice B20 (bestF res (rowsV vs)).1.length e20, .slice none ([] : List Int).length 0]), ownB b2 (cellsB 62 [.slice none 0 0, .slice none 0 0]), ownB b1 (cellsB 60 [.slice Ar res.length cr, .slice Av vs.length cv])] ?_
    refine cj_lpi (X := Nat × Option Addr × Nat × List Int) [(1, _), (2, _), (3, _), (6, _), (7, _), (27, _)] (fun ⟨k, A1, c1, ps⟩ => k ≤ res.length ∧ ps.length = k ∧ ps = ((List.range k).map (priceC res (rowsV vs)))) (fun ⟨k, A1, c1, ps⟩ => [(28, .int .i64 k)]) (fun ⟨k, A1, c1, ps⟩ => [ow 3 1 enInt A1 c1 ps, ow 3 1 enInt B20 e20 (bestF res (rowsV vs)).1, ownB b7 (cellsB 62 [.slice B20 (bestF res (rowsV vs)).1.length e20, .slice A1 ps.length c1]), ownB b2 (cellsB 62 [.slice none 0 0, .slice none 0 0]), ownB b1 (cellsB 60 [.slice Ar res.length cr, .slice Av vs.length cv])]) (fun ⟨k, A1, c1, ps⟩ => [sl (fun b => b < w.heap.size) 1 enInt Ar res, sl (fun b => b < w.heap.size) 1 encLs Av vs]) (fun ⟨k, A1, c1, ps⟩ => res.length - k) (0, none, 0, []) (⟨Nat.zero_le _, rfl, rfl⟩) ⟨rfl, rfl, rfl, rfl, rfl, rfl, rfl, trivial⟩ ?_
    rintro ⟨k, A1, c1, ps⟩ ⟨hk, hpl, hps⟩
    dsimp only [List.cons_append, List.nil_append]
    refine cj_seq ?_
    refine cj_regionG (gj_step (y_lss rfl rfl) rfl rfl rfl (gj_nil ?_))
    refine ej_th (cj_seq ?_)
    refine cj_cond rfl (fun h29 => ?_) (fun h29 => ?_)
    · have h29b := h29
      try simp only [sxb] at h29
      have hk5 : k < res.length := by omega
      refine cj_skip (ej_th (cj_seq (cj_block (cj_seq ?_))))
      refine cj_regionG (gj_step (y_move rfl) rfl rfl rfl (gj_step (y_assign rfl) rfl rfl rfl (gj_nil ?_)))
      refine ej_th (cj_seq (cj_region ?_))
      refine oj_step (y_loadN Try.isAgg60 Try.sizeOf60 rfl) rfl rfl rfl ?_
      refine oj_step (y_build (cs := [.slice Ar res.length cr, .slice Av vs.length cv]) st117 rfl (by kernel_rfl)) rfl rfl rfl ?_
      refine oj_step (y_move rfl) rfl rfl rfl ?_
      refine oj_call (X := { z : WithZ // rowsV z.rows = withV (rowsV vs) k }) (fun z => .agg #[.slice z.1.B (withR res k).length z.1.d, .slice z.1.Bv z.1.rows.length z.1.dv]) (fun _ => []) (fun z => [sl (fun i => z.1.n1 ≤ i ∧ i < z.1.n2) 1 enInt z.1.B (withR res k), sl (fun i => z.1.n1 ≤ i ∧ i < z.1.n2) 1 encLs z.1.Bv z.1.rows, rwF (fun i => z.1.n1 ≤ i ∧ i < z.1.n2) z.1.rows]) Try.call78 rfl (fun w hp => k_with res Ar cr vs Av cv k w hp.rd hp.rd (fun r h => (hgv r h).mono hp.below) hco hk5) rfl ?_
      rintro ⟨z, hz⟩
      dsimp only [List.nil_append, List.cons_append]
      refine oj_callO (fun B d => .tuple #[.slice B (bestF (withR res k) (withV (rowsV vs) k)).1.length d, .int .i64 (bestF (withR res k) (withV (rowsV vs) k)).2]) 3 1 enInt (bestF (withR res k) (withV (rowsV vs) k)).1 Try.call77 rfl (fun w hp => by
        have h9 := k_best (withR res k) z.B z.d z.rows z.Bv z.dv w hp.rd hp.rd (rw_good (fp := fun i => z.n1 ≤ i ∧ i < z.n2) hp (.tail _ (.tail _ (.head _)))) (by rw [hz]; exact clo_with hco (by omega))
        rw [hz] at h9
        exact h9) rfl (fun B36 e36 => ?_)
      refine oj_step (y_move rfl) rfl rfl rfl ?_
      refine oj_step (y_extract rfl rfl) rfl rfl rfl ?_
      refine oj_step (y_extract rfl rfl) rfl rfl rfl ?_
      refine oj_step (y_assign rfl) rfl rfl rfl ?_
      refine oj_step (y_assign rfl) rfl rfl rfl ?_
      refine oj_nil ?_
      refine ej_th (cj_region ?_)
      refine oj_step (y_fa fa62_1 rfl) rfl rfl rfl ?_
      refine oj_step (y_load1 Try.isAgg43 rfl rfl) rfl rfl rfl ?_
      refine oj_step (y_move rfl) rfl rfl rfl ?_
      refine oj_step (y_move rfl) rfl rfl rfl ?_
      refine oj_step (y_sub rfl rfl (by have h1 := best_bd hco; have h2 := best_bd (clo_with (k := k) hco (by omega)); omega)) rfl rfl rfl ?_
      refine oj_buildSlice (cs := [.int .i64 ((bestF (withR res k) (withV (rowsV vs) k)).2 - (bestF res (rowsV vs)).2)]) [.int .i64 0] Try.underlying43 Try.sizeOf3 Try.zeroValue3 rfl rfl (by kernel_rfl) (by kernel_rfl) rfl (fun b44 => ?_)
      refine oj_append  el43 (fun _ => rfl) enInt_one rfl rfl rfl (reads_lit [((bestF (withR res k) (withV (rowsV vs) k)).2 - (bestF res (rowsV vs)).2)] (fun _ => rfl) rfl) (by unfold maxLen; simp only [List.length_append, List.length_cons, List.length_nil]; omega) (by simp only [List.length_append, List.length_cons, List.length_nil]; omega) rfl (fun A45 c45 => ?_)
      refine oj_step (y_fa fa62_1 rfl) rfl rfl rfl ?_
      refine oj_store rfl rfl rfl rfl Try.sizeOf43 rfl ?_
      refine oj_nil ?_
      refine ej_blk (ej_th ?_)
      refine cj_regionG (gj_step (y_add rfl rfl (by omega)) rfl rfl rfl (gj_step (y_move rfl) rfl rfl rfl (gj_nil ?_)))
      exact ej_nx (k + 1, A45, c45, ps ++ [((bestF (withR res k) (withV (rowsV vs) k)).2 - (bestF res (rowsV vs)).2)]) (by simp only; omega) ⟨by first | omega | (simp only; omega), by simp only [List.length_append, List.length_cons, List.length_nil]; omega, by rw [hps, prices_snoc]; rfl⟩ ⟨rfl, rfl, rfl, rfl, rfl, rfl, rfl, trivial⟩
    · have h29b := h29
      try simp only [sxb] at h29
      have hke : k = res.length := by omega
      subst hke
      refine cj_exit (ej_then_exit (ej_then_exit (ej_blk_hit (ej_th (cj_seq (cj_region ?_))))))
      refine oj_step (y_loadN Try.isAgg62 Try.sizeOf62 rfl) rfl rfl rfl ?_
      refine oj_store rfl rfl rfl rfl Try.sizeOf62 rfl ?_
      refine oj_step (y_assign rfl) rfl rfl rfl ?_
      refine oj_nil ?_
      refine ej_th (cj_ret ?_)
      refine ej_retC2 rfl Try.results32 rfl (y_loadN Try.isAgg62 Try.sizeOf62 rfl) rfl (fun w' hp => ⟨(B20, e20, A1, c1, w.heap.size, w'.heap.size), by rw [e1, e2]; simp only [pricesL]; rw [← hps], hp.below, by simp, by simp, by rw [e1]; simp only [pricesL]; rw [← hps]; exact award_facts hp (by unfold maxLen; omega) (by unfold maxLen; omega) (.tail _ (.head _)) (.head _)⟩)

end Go.Proofs.Ytehmifpofpifkaa
namespace Go.Proofs.Ytehmifpofpifkaa
open Go.Sx Go.RowKit Am
set_option maxRecDepth 20000
theorem k_rCheckC (res : List Int) (Ar : Option Addr) (cr : Nat) (vs : List ListV) (Av : Option Addr) (cv : Nat) (w : World) (hres : Rd w 1 enInt Ar res) (hvs : Rd w 1 encLs Av vs) (hgv : ∀ r ∈ vs, GoodL w r) : Calls Try.prog 41 #[.agg #[.slice Ar res.length cr, .slice Av vs.length cv]] w (fun e w' => e = .returned (.int .i64 (cloE res vs)) ∧ Grow w w') := by
  have hlr := hres.len
  have hlv := hvs.len
  refine enter_pure (args := [.agg #[.slice Ar res.length cr, .slice Av vs.length cv]]) [sl (fun b => b < w.heap.size) 1 enInt Ar res, sl (fun b => b < w.heap.size) 1 encLs Av vs] Try.func41 rfl (by rw [Try.ntmps41]; simp) (fun g hg => by simp at hg; rcases hg with rfl | rfl; exact ⟨hres, fun _ h => h⟩; exact ⟨hvs, fun _ h => h⟩) ?_
  refine cj_seq (cj_region ?_)
  refine oj_box rfl rfl rfl (fun b1 => ?_)
  refine oj_step (y_assign rfl) rfl rfl rfl ?_
  refine oj_nil ?_
  refine ej_th (cj_seq ?_)
  refine cj_regionG ?_
  refine gj_step (y_fa0 fa60_0 rfl) rfl rfl rfl (gj_step (y_load1 Try.isAgg43 rfl rfl) rfl rfl rfl (gj_step (y_lenA Try.underlying43 rfl) rfl rfl rfl (?_)))
  refine gj_step (y_call Try.call35 rfl (fun w hp => k_From _ _ _ w)) rfl rfl rfl ?_
  refine gj_step (y_move rfl) rfl rfl rfl (?_)
  refine gj_g 4 11 15 rfl rfl rfl rfl (fun hg11 => gj_yes rfl rfl rfl (y_fa fa60_1 rfl) rfl rfl (gj_yes rfl rfl rfl (y_load1 Try.isAgg58 rfl rfl) rfl rfl (gj_yes rfl rfl rfl (y_lenA Try.underlying58 rfl) rfl rfl (gj_yes rfl rfl rfl (y_call Try.call35 rfl (fun w hp => k_From _ _ _ w)) rfl rfl (gj_nil rfl))))) ?_
  refine gj_step (y_and rfl rfl rfl) rfl rfl rfl (gj_step (y_assign rfl) rfl rfl rfl (?_))
  refine gj_nil ?_
  refine ej_th (cj_seq (cj_seq ?_))
  refine cj_regionG (gj_step (y_assign rfl) rfl rfl rfl (gj_nil ?_))
  refine ej_th (cj_block ?_)
  refine cj_lpic (X := Nat × Bool) [(1, _), (2, _)] (fun ⟨k, ok⟩ => k ≤ res.length ∧ (ok && (res.drop k).all okv) = (((decide ((1 : Int) ≤ res.length) && decide ((res.length : Int) ≤ 5)) && (decide ((1 : Int) ≤ vs.length) && decide ((vs.length : Int) ≤ 6))) && res.all okv)) (fun ⟨k, ok⟩ => [(3, .bool ok), (4, .int .i64 k)]) (fun ⟨k, ok⟩ => res.length - k) (0, _) (⟨Nat.zero_le _, rfl⟩) ⟨rfl, rfl, rfl, rfl, trivial⟩ ?_
  rintro ⟨k, ok⟩ ⟨hk, hsk⟩
  dsimp only [List.cons_append, List.nil_append]
  refine cj_seq (cj_seq ?_)
  refine cj_regionG (gj_step (y_move rfl) rfl rfl rfl (gj_step (y_fa0 fa60_0 rfl) rfl rfl rfl (gj_step (y_load1 Try.isAgg43 rfl rfl) rfl rfl rfl (gj_step (y_lenA Try.underlying43 rfl) rfl rfl rfl (gj_step (y_lss rfl rfl) rfl rfl rfl (gj_nil ?_))))))
  refine ej_th ?_
  refine cj_cond rfl (fun h21 => ?_) (fun h21 => ?_)
  · have h21b := h21
    try simp only [sxb] at h21
    obtain ⟨x, hx⟩ : ∃ x, res[k]? = some x := ⟨_, List.getElem?_eq_getElem (by omega)⟩
    rw [all_drop okv res k x hx] at hsk
    refine cj_skip (ej_th (cj_seq (cj_block ?_)))
    refine cj_regionG ?_
    refine gj_step (y_move rfl) rfl rfl rfl (gj_step (y_move rfl) rfl rfl rfl (?_))
    refine gj_g 6 25 31 rfl rfl rfl rfl (fun hg25 => gj_yes rfl rfl rfl (y_fa0 fa60_0 rfl) rfl rfl (gj_yes rfl rfl rfl (y_load1 Try.isAgg43 rfl rfl) rfl rfl (gj_yes rfl rfl rfl (y_move rfl) rfl rfl (gj_yes rfl rfl rfl (y_ixR (reads_sl) Try.underlying43 Try.sizeOf3 rfl rfl (⟨by omega, by omega⟩)) rfl rfl (gj_yes rfl rfl rfl (y_ld0 (reads_sl) Try.isAgg3 rfl (hx) rfl) rfl rfl (gj_yes rfl rfl rfl (y_call Try.call35 rfl (fun w hp => k_From _ _ _ w)) rfl rfl (gj_nil rfl))))))) ?_
    refine gj_step (y_and rfl rfl rfl) rfl rfl rfl (gj_step (y_assign rfl) rfl rfl rfl (?_))
    refine gj_nil ?_
    refine ej_blk (ej_th ?_)
    refine cj_regionG (gj_step (y_move rfl) rfl rfl rfl (gj_step (y_add rfl rfl (by omega)) rfl rfl rfl (gj_step (y_assign rfl) rfl rfl rfl (gj_nil ?_))))
    exact ej_nx (k + 1, _) (by simp only; omega) ⟨by first | omega | (simp only; omega), by rw [← hsk, ← Bool.and_assoc]; rfl⟩ ⟨rfl, rfl, rfl, rfl, trivial⟩
  · have h21b := h21
    try simp only [sxb] at h21
    rw [List.drop_of_length_le (by omega)] at hsk
    have hoka : ok = (((decide ((1 : Int) ≤ res.length) && decide ((res.length : Int) ≤ 5)) && (decide ((1 : Int) ≤ vs.length) && decide ((vs.length : Int) ≤ 6))) && res.all okv) := by rw [← hsk]; exact (Bool.and_true _).symm
    refine cj_exit (ej_then_exit (ej_then_exit (ej_blk_hit (ej_th (cj_seq (cj_seq ?_))))))
    refine cj_regionG (gj_step (y_assign rfl) rfl rfl rfl (gj_nil ?_))
    refine ej_th (cj_block ?_)
    refine cj_lpic (X := Nat × Bool) [(1, _), (2, _)] (fun ⟨i, ok2⟩ => i ≤ vs.length ∧ (ok2 && (vs.drop i).all (rowOk res.length)) = (ok && vs.all (rowOk res.length))) (fun ⟨i, ok2⟩ => [(3, .bool ok2), (5, .int .i64 i)]) (fun ⟨i, ok2⟩ => vs.length - i) (0, ok) (⟨Nat.zero_le _, rfl⟩) ⟨rfl, rfl, rfl, rfl, trivial⟩ ?_
    rintro ⟨i, ok2⟩ ⟨hi, hsi⟩
    dsimp only [List.cons_append, List.nil_append]
    refine cj_seq (cj_seq ?_)
    refine cj_regionG (gj_step (y_move rfl) rfl rfl rfl (gj_step (y_fa fa60_1 rfl) rfl rfl rfl (gj_step (y_load1 Try.isAgg58 rfl rfl) rfl rfl rfl (gj_step (y_lenA Try.underlying58 rfl) rfl rfl rfl (gj_step (y_lss rfl rfl) rfl rfl rfl (gj_nil ?_))))))
    refine ej_th ?_
    refine cj_cond rfl (fun h37 => ?_) (fun h37 => ?_)
    · have h37b := h37
      try simp only [sxb] at h37
      obtain ⟨r, hr⟩ : ∃ r, vs[i]? = some r := ⟨_, List.getElem?_eq_getElem (by omega)⟩
      have hgr := hgv r (List.mem_of_getElem? hr)
      have hrl := hgr.len
      rw [all_drop (rowOk res.length) vs i r hr] at hsi
      refine cj_rd hgr (fun _ h => h) ?_
      refine cj_skip (ej_th (cj_seq (cj_block (cj_seq ?_))))
      refine cj_draw (by kernel_rfl) (by kernel_rfl) (gj_step (y_move rfl) rfl rfl rfl (gj_step (y_move rfl) rfl rfl rfl (gj_g 10 41 51 rfl rfl rfl rfl (fun hg41 => gj_yes rfl rfl rfl (y_fa fa60_1 rfl) rfl rfl (gj_yes rfl rfl rfl (y_load1 Try.isAgg58 rfl rfl) rfl rfl (gj_yes rfl rfl rfl (y_move rfl) rfl rfl (gj_yes rfl rfl rfl (y_ixR (reads_sl) Try.underlying58 Try.sizeOf43 rfl rfl (⟨by omega, by omega⟩)) rfl rfl (gj_yes rfl rfl rfl (y_ld0 (reads_sl) Try.isAgg43 rfl (hr) rfl) rfl rfl (gj_yes rfl rfl rfl (y_lenA Try.underlying43 rfl) rfl rfl (gj_yes rfl rfl rfl (y_fa0 fa60_0 rfl) rfl rfl (gj_yes rfl rfl rfl (y_load1 Try.isAgg43 rfl rfl) rfl rfl (gj_yes rfl rfl rfl (y_lenA Try.underlying43 rfl) rfl rfl (gj_yes rfl rfl rfl (y_eql rfl rfl) rfl rfl (gj_nil rfl))))))))))) (gj_step (y_and rfl rfl rfl) rfl rfl rfl (gj_step (y_assign rfl) rfl rfl rfl (gj_nil ?_))))))
      refine ej_th (cj_seq ?_)
      refine cj_regionG (gj_step (y_assign rfl) rfl rfl rfl (gj_nil ?_))
      refine ej_th (cj_block ?_)
      refine cj_lpic (X := Nat × Bool) [(5, _), (1, _), (2, _)] (fun ⟨j, ok3⟩ => j ≤ r.l.length ∧ (ok3 && (r.l.drop j).all okv) = ((ok2 && ((r.l.length : Int) == (res.length : Int))) && r.l.all okv)) (fun ⟨j, ok3⟩ => [(3, .bool ok3), (6, .int .i64 j)]) (fun ⟨j, ok3⟩ => r.l.length - j) (0, _) (⟨Nat.zero_le _, rfl⟩) ⟨rfl, rfl, rfl, rfl, rfl, trivial⟩ ?_
      rintro ⟨j, ok3⟩ ⟨hj, hsj⟩
      dsimp only [List.cons_append, List.nil_append]
      refine cj_seq (cj_seq ?_)
      refine cj_regionG (gj_step (y_move rfl) rfl rfl rfl (gj_step (y_fa fa60_1 rfl) rfl rfl rfl (gj_step (y_load1 Try.isAgg58 rfl rfl) rfl rfl rfl (gj_step (y_move rfl) rfl rfl rfl (gj_step (y_ixR (reads_sl) Try.underlying58 Try.sizeOf43 rfl rfl (⟨by omega, by omega⟩)) rfl rfl rfl (gj_step (y_ld0 (reads_sl) Try.isAgg43 rfl (hr) rfl) rfl rfl rfl (gj_step (y_lenA Try.underlying43 rfl) rfl rfl rfl (gj_step (y_lss rfl rfl) rfl rfl rfl (gj_nil ?_)))))))))
      refine ej_th ?_
      refine cj_cond rfl (fun h60 => ?_) (fun h60 => ?_)
      · have h60b := h60
        try simp only [sxb] at h60
        obtain ⟨x, hx⟩ : ∃ x, r.l[j]? = some x := ⟨_, List.getElem?_eq_getElem (by omega)⟩
        rw [all_drop okv r.l j x hx] at hsj
        refine cj_skip (ej_th (cj_seq (cj_block ?_)))
        refine cj_regionG ?_
        refine gj_step (y_move rfl) rfl rfl rfl (gj_step (y_move rfl) rfl rfl rfl (?_))
        refine gj_g 9 64 73 rfl rfl rfl rfl (fun hg64 => gj_yes rfl rfl rfl (y_fa fa60_1 rfl) rfl rfl (gj_yes rfl rfl rfl (y_load1 Try.isAgg58 rfl rfl) rfl rfl (gj_yes rfl rfl rfl (y_move rfl) rfl rfl (gj_yes rfl rfl rfl (y_ixR (reads_sl) Try.underlying58 Try.sizeOf43 rfl rfl (⟨by omega, by omega⟩)) rfl rfl (gj_yes rfl rfl rfl (y_ld0 (reads_sl) Try.isAgg43 rfl (hr) rfl) rfl rfl (gj_yes rfl rfl rfl (y_move rfl) rfl rfl (gj_yes rfl rfl rfl (y_ixR (reads_sl) Try.underlying43 Try.sizeOf3 rfl rfl (⟨by omega, by omega⟩)) rfl rfl (gj_yes rfl rfl rfl (y_ld0 (reads_sl) Try.isAgg3 rfl (hx) rfl) rfl rfl (gj_yes rfl rfl rfl (y_call Try.call35 rfl (fun w hp => k_From _ _ _ w)) rfl rfl (gj_nil rfl)))))))))) ?_
        refine gj_step (y_and rfl rfl rfl) rfl rfl rfl (gj_step (y_assign rfl) rfl rfl rfl (?_))
        refine gj_nil ?_
        refine ej_blk (ej_th ?_)
        refine cj_regionG (gj_step (y_move rfl) rfl rfl rfl (gj_step (y_add rfl rfl (by omega)) rfl rfl rfl (gj_step (y_assign rfl) rfl rfl rfl (gj_nil ?_))))
        exact ej_nx (j + 1, _) (by simp only; omega) ⟨by first | omega | (simp only; omega), by rw [← hsj, ← Bool.and_assoc]; rfl⟩ ⟨rfl, rfl, rfl, rfl, rfl, trivial⟩
      · have h60b := h60
        try simp only [sxb] at h60
        rw [List.drop_of_length_le (by omega)] at hsj
        have hok3 : ok3 = ((ok2 && ((r.l.length : Int) == (res.length : Int))) && r.l.all okv) := by rw [← hsj]; exact (Bool.and_true _).symm
        refine cj_exit (ej_then_exit (ej_then_exit (ej_blk_hit (ej_blk (ej_th ?_)))))
        refine cj_regionG (gj_step (y_move rfl) rfl rfl rfl (gj_step (y_add rfl rfl (by omega)) rfl rfl rfl (gj_step (y_assign rfl) rfl rfl rfl (gj_nil ?_))))
        exact ej_nx (i + 1, ok3) (by simp only; omega) ⟨by first | omega | (simp only; omega), by rw [← hsi, hok3, rowOk]; simp only [Bool.and_assoc]⟩ ⟨rfl, rfl, rfl, rfl, trivial⟩
    · have h37b := h37
      try simp only [sxb] at h37
      rw [List.drop_of_length_le (by omega)] at hsi
      have hfin : ok2 = cloB res vs := by rw [← clo_ref, ← hoka, ← hsi]; exact (Bool.and_true _).symm
      refine cj_exit (ej_then_exit (ej_then_exit (ej_blk_hit (ej_th (cj_seq (cj_seq ?_))))))
      refine cj_regionG (gj_step (y_move rfl) rfl rfl rfl (gj_step (y_not rfl) rfl rfl rfl (gj_nil ?_)))
      refine ej_th ?_
      refine cj_cond rfl (fun h76 => ?_) (fun h76 => ?_)
      · have h76b := h76
        try simp only [sxb] at h76
        have hno : cloB res vs = false := by rw [← hfin]; exact not_t h76b
        refine cj_seq ?_
        refine cj_regionG (gj_step (y_assign rfl) rfl rfl rfl (gj_nil ?_))
        refine ej_th (cj_ret (ej_then_ret ?_))
        refine ej_ret1 rfl Try.results41 rfl (fun w' hp => ⟨?_, hp.below⟩)
        rw [cloE, hno]; rfl
      · have h76b := h76
        try simp only [sxb] at h76
        have hyes : cloB res vs = true := by rw [← hfin]; exact not_f h76b
        refine cj_skip (ej_th (cj_seq ?_))
        refine cj_regionG (gj_step (y_assign rfl) rfl rfl rfl (gj_nil ?_))
        refine ej_th (cj_ret ?_)
        refine ej_ret1 rfl Try.results41 rfl (fun w' hp => ⟨?_, hp.below⟩)
        rw [cloE, hyes]; rfl

theorem k_given (res : List Int) (Ar : Option Addr) (cr : Nat) (vs : List ListV) (Av : Option Addr) (cv : Nat) (to : List Int) (At : Option Addr) (ct : Nat) (w : World) (hres : Rd w 1 enInt Ar res) (hvs : Rd w 1 encLs Av vs) (hto : Rd w 1 enInt At to) : Calls Try.prog 82 #[.agg #[.slice Ar res.length cr, .slice Av vs.length cv], .slice At to.length ct] w (fun e w' => e = .returned (.bool (fitsB res.length vs.length to)) ∧ Grow w w') := by
  have hlr := hres.len
  have hlv := hvs.len
  have hlt := hto.len
  refine enter_pure (args := [.agg #[.slice Ar res.length cr, .slice Av vs.length cv], .slice At to.length ct]) [sl (fun b => b < w.heap.size) 1 enInt Ar res, sl (fun b => b < w.heap.size) 1 encLs Av vs, sl (fun b => b < w.heap.size) 1 enInt At to] Try.func82 rfl (by rw [Try.ntmps82]; simp) (fun g hg => by simp at hg; rcases hg with rfl | rfl | rfl; exact ⟨hres, fun _ h => h⟩; exact ⟨hvs, fun _ h => h⟩; exact ⟨hto, fun _ h => h⟩) ?_
  refine cj_seq (cj_region ?_)
  refine oj_box rfl rfl rfl (fun b2 => ?_)
  refine oj_step (y_assign rfl) rfl rfl rfl ?_
  refine oj_nil ?_
  refine ej_th (cj_seq (cj_seq ?_))
  refine cj_regionG (gj_step (y_assign rfl) rfl rfl rfl (gj_nil ?_))
  refine ej_th (cj_block ?_)
  refine cj_lpic (X := Nat) [(1, _), (2, _)] (fun k => k ≤ to.length ∧ okF res.length to (to.drop k) k = okF res.length to to 0) (fun k => [(5, .int .i64 k)]) (fun k => to.length - k) 0 (⟨Nat.zero_le _, rfl⟩) ⟨rfl, rfl, rfl, trivial⟩ ?_
  rintro k ⟨hk, hsk⟩
  dsimp only [List.cons_append, List.nil_append]
  refine cj_seq (cj_seq ?_)
  refine cj_regionG (gj_step (y_move rfl) rfl rfl rfl (gj_step (y_move rfl) rfl rfl rfl (gj_step (y_lenA Try.underlying43 rfl) rfl rfl rfl (gj_step (y_lss rfl rfl) rfl rfl rfl (gj_nil ?_)))))
  refine ej_th ?_
  refine cj_cond rfl (fun h9 => ?_) (fun h9 => ?_)
  · have h9b := h9
    try simp only [sxb] at h9
    obtain ⟨x, hx⟩ : ∃ x, to[k]? = some x := ⟨_, List.getElem?_eq_getElem (by omega)⟩
    rw [okF_drop res.length to k x hx] at hsk
    have hsa := seek_at hx
    refine cj_skip (ej_th (cj_seq (cj_block (cj_seq ?_))))
    refine cj_draw (by kernel_rfl) (by kernel_rfl) ?_
    refine gj_step (y_move rfl) rfl rfl rfl (gj_step (y_move rfl) rfl rfl rfl (gj_step (y_ixR (reads_sl) Try.underlying43 Try.sizeOf3 rfl rfl (⟨by omega, by omega⟩)) rfl rfl rfl (gj_step (y_ld0 (reads_sl) Try.isAgg3 rfl (hx) rfl) rfl rfl rfl (gj_step (y_fa0 fa60_0 rfl) rfl rfl rfl (gj_step (y_load1 Try.isAgg43 rfl rfl) rfl rfl rfl (gj_step (y_lenA Try.underlying43 rfl) rfl rfl rfl (gj_step (y_sub rfl rfl (by omega)) rfl rfl rfl (?_))))))))
    refine gj_step (y_call Try.call35 rfl (fun w hp => k_From _ _ _ w)) rfl rfl rfl ?_
    refine gj_step (y_not rfl) rfl rfl rfl (gj_step (y_move rfl) rfl rfl rfl (?_))
    refine gj_g 15 22 37 rfl rfl rfl rfl (fun hg22 => gj_yes rfl rfl rfl (y_move rfl) rfl rfl (gj_yes rfl rfl rfl (y_move rfl) rfl rfl (gj_yes rfl rfl rfl (y_ixR (reads_sl) Try.underlying43 Try.sizeOf3 rfl rfl (⟨by omega, by omega⟩)) rfl rfl (gj_yes rfl rfl rfl (y_ld0 (reads_sl) Try.isAgg3 rfl (hx) rfl) rfl rfl (gj_yes rfl rfl rfl (y_geq rfl rfl) rfl rfl (gj_yes rfl rfl rfl (y_move rfl) rfl rfl (gj_g 8 28 36 rfl rfl rfl rfl (fun hg28 => gj_yes rfl rfl rfl (y_move rfl) rfl rfl (gj_yes rfl rfl rfl (y_move rfl) rfl rfl (gj_yes rfl rfl rfl (y_move rfl) rfl rfl (gj_yes rfl rfl rfl (y_ixR (reads_sl) Try.underlying43 Try.sizeOf3 rfl rfl (⟨by omega, by omega⟩)) rfl rfl (gj_yes rfl rfl rfl (y_ld0 (reads_sl) Try.isAgg3 rfl (hx) rfl) rfl rfl (gj_yes rfl rfl rfl (y_call Try.call102 rfl (fun w hp => k_Seek to x At ct w hp.rd)) rfl rfl (gj_yes rfl rfl rfl (y_move rfl) rfl rfl (gj_yes rfl rfl rfl (y_neq rfl rfl) rfl rfl (gj_nil rfl))))))))) (gj_yes rfl rfl rfl (y_and rfl rfl rfl) rfl rfl (gj_nil rfl))))))))) ?_
    refine gj_step (y_or rfl rfl rfl) rfl rfl rfl (?_)
    refine gj_nil ?_
    refine ej_th ?_
    refine cj_cond rfl (fun h38 => ?_) (fun h38 => ?_)
    · have h38b := h38
      try simp only [sxb] at h38
      rw [hsa, ok1_V] at h38b
      refine cj_seq ?_
      refine cj_regionG (gj_step (y_assign rfl) rfl rfl rfl (gj_nil ?_))
      refine ej_th (cj_ret (ej_blk_ret (ej_then_ret (ej_then_ret (ej_blk_ret (ej_then_ret ?_))))))
      refine ej_ret1 rfl Try.results82 rfl (fun w' hp => ⟨?_, hp.below⟩)
      rw [fitsB, ← hsk, not_t h38b]; rfl
    · have h38b := h38
      try simp only [sxb] at h38
      rw [hsa, ok1_V] at h38b
      refine cj_skip (ej_blk (ej_th ?_))
      refine cj_regionG (gj_step (y_move rfl) rfl rfl rfl (gj_step (y_add rfl rfl (by omega)) rfl rfl rfl (gj_step (y_assign rfl) rfl rfl rfl (gj_nil ?_))))
      exact ej_nx (k + 1) (by omega) ⟨by omega, by rw [← hsk, not_f h38b, Bool.true_and]⟩ ⟨rfl, rfl, rfl, trivial⟩
  · have h9b := h9
    try simp only [sxb] at h9
    refine cj_exit (ej_then_exit (ej_then_exit (ej_blk_hit (ej_th (cj_seq ?_)))))
    refine cj_regionG (gj_step (y_move rfl) rfl rfl rfl (gj_step (y_lenA Try.underlying43 rfl) rfl rfl rfl (gj_step (y_fa fa60_1 rfl) rfl rfl rfl (gj_step (y_load1 Try.isAgg58 rfl rfl) rfl rfl rfl (gj_step (y_lenA Try.underlying58 rfl) rfl rfl rfl (gj_step (y_eql rfl rfl) rfl rfl rfl (gj_step (y_assign rfl) rfl rfl rfl (gj_nil ?_))))))))
    refine ej_th (cj_ret ?_)
    refine ej_ret1 rfl Try.results82 rfl (fun w' hp => ⟨?_, hp.below⟩)
    rw [fitsB, ← hsk, List.drop_of_length_le (by omega)]; rfl

theorem k_rworth (res : List Int) (Ar : Option Addr) (cr : Nat) (vs : List ListV) (Av : Option Addr) (cv : Nat) (to : List Int) (At : Option Addr) (ct : Nat) (w : World) (hres : Rd w 1 enInt Ar res) (hvs : Rd w 1 encLs Av vs) (hgv : ∀ r ∈ vs, GoodL w r) (hto : Rd w 1 enInt At to) (hco : CloOk res (rowsV vs)) (htl : to.length ≤ vs.length) : Calls Try.prog 83 #[.agg #[.slice Ar res.length cr, .slice Av vs.length cv], .slice At to.length ct] w (fun e w' => e = .returned (.int .i64 (worthR res (rowsV vs) to)) ∧ Grow w w') := by
  have hlr := hres.len
  have hlv := hvs.len
  have h6 := hco.m
  refine enter_pure (args := [.agg #[.slice Ar res.length cr, .slice Av vs.length cv], .slice At to.length ct]) [sl (fun b => b < w.heap.size) 1 enInt Ar res, sl (fun b => b < w.heap.size) 1 encLs Av vs, sl (fun b => b < w.heap.size) 1 enInt At to] Try.func83 rfl (by rw [Try.ntmps83]; simp) (fun g hg => by simp at hg; rcases hg with rfl | rfl | rfl; exact ⟨hres, fun _ h => h⟩; exact ⟨hvs, fun _ h => h⟩; exact ⟨hto, fun _ h => h⟩) ?_
  refine cj_seq (cj_region ?_)
  refine oj_box rfl rfl rfl (fun b2 => ?_)
  refine oj_step (y_assign rfl) rfl rfl rfl ?_
  refine oj_nil ?_
  refine ej_th (cj_seq ?_)
  refine cj_regionG (gj_step (y_assign rfl) rfl rfl rfl (gj_nil ?_))
  refine ej_th (cj_seq (cj_seq ?_))
  refine cj_regionG (gj_step (y_assign rfl) rfl rfl rfl (gj_nil ?_))
  refine ej_th (cj_block ?_)
  refine cj_lpic (X := Nat × Int) [(1, _), (2, _), (4, _)] (fun ⟨k, n⟩ => k ≤ res.length ∧ (0 ≤ n ∧ n ≤ 100000 * k) ∧ wLot (rowsV vs) to (res.drop k) k n = worthR res (rowsV vs) to) (fun ⟨k, n⟩ => [(5, .int .i64 n), (6, .int .i64 k)]) (fun ⟨k, n⟩ => res.length - k) (0, 0) (⟨Nat.zero_le _, by omega, rfl⟩) ⟨rfl, rfl, rfl, rfl, rfl, trivial⟩ ?_
  rintro ⟨k, n⟩ ⟨hk, hnb, hsk⟩
  dsimp only [List.cons_append, List.nil_append]
  refine cj_seq (cj_seq ?_)
  refine cj_regionG (gj_step (y_move rfl) rfl rfl rfl (gj_step (y_fa0 fa60_0 rfl) rfl rfl rfl (gj_step (y_load1 Try.isAgg43 rfl rfl) rfl rfl rfl (gj_step (y_lenA Try.underlying43 rfl) rfl rfl rfl (gj_step (y_lss rfl rfl) rfl rfl rfl (gj_nil ?_))))))
  refine ej_th ?_
  refine cj_cond rfl (fun h12 => ?_) (fun h12 => ?_)
  · have h12b := h12
    try simp only [sxb] at h12
    obtain ⟨x, hx⟩ : ∃ x, res[k]? = some x := ⟨_, List.getElem?_eq_getElem (by omega)⟩
    have hxb := hco.res x (List.mem_of_getElem? hx)
    rw [wLot_drop (rowsV vs) to res k x n hx, ← seek_N] at hsk
    refine cj_skip (ej_th (cj_seq (cj_block (cj_seq ?_))))
    refine cj_regionG ?_
    refine gj_step (y_move rfl) rfl rfl rfl (gj_step (y_move rfl) rfl rfl rfl (?_))
    refine gj_step (y_call Try.call102 rfl (fun w hp => k_Seek to (k : Nat) At ct w hp.rd)) rfl rfl rfl ?_
    refine gj_step (y_assign rfl) rfl rfl rfl (?_)
    refine gj_nil ?_
    refine ej_th (cj_seq ?_)
    refine cj_regionG (gj_step (y_move rfl) rfl rfl rfl (gj_step (y_geq rfl rfl) rfl rfl rfl (gj_nil ?_)))
    refine ej_th ?_
    refine cj_cond rfl (fun h19 => ?_) (fun h19 => ?_)
    · have h19b := h19
      try simp only [sxb] at h19
      obtain ⟨i, hi, hse⟩ := seek_get h19
      have hil := (List.getElem?_eq_some_iff.1 hi).1
      rw [hse]
      obtain ⟨r, hr0⟩ : ∃ r, vs[i]? = some r := ⟨_, List.getElem?_eq_getElem (by omega)⟩
      have hr : vs[((i : Nat) : Int).toNat]? = some r := by rw [show ((i : Nat) : Int).toNat = i by omega]; exact hr0
      have hgr := hgv r (List.mem_of_getElem? hr)
      have hrl := hgr.len
      have hrm : r.l.length = res.length := hco.len _ (List.mem_of_getElem? (rowsV_get hr0))
      obtain ⟨v, hv⟩ : ∃ v, r.l[k]? = some v := ⟨_, List.getElem?_eq_getElem (by omega)⟩
      have hvb := hco.val _ (List.mem_of_getElem? (rowsV_get hr0)) v (List.mem_of_getElem? hv)
      rw [if_pos h19, hse, show ((i : Nat) : Int).toNat = i by omega, vv_get hr0 hv] at hsk
      refine cj_rd hgr (fun _ h => h) ?_
      refine cj_regionG (gj_step (y_move rfl) rfl rfl rfl (gj_step (y_fa fa60_1 rfl) rfl rfl rfl (gj_step (y_load1 Try.isAgg58 rfl rfl) rfl rfl rfl (gj_step (y_move rfl) rfl rfl rfl (gj_step (y_ixR (reads_sl) Try.underlying58 Try.sizeOf43 rfl rfl (⟨by omega, by omega⟩)) rfl rfl rfl (gj_step (y_ld0 (reads_sl) Try.isAgg43 rfl (hr) rfl) rfl rfl rfl (gj_step (y_move rfl) rfl rfl rfl (gj_step (y_ixR (reads_sl) Try.underlying43 Try.sizeOf3 rfl rfl (⟨by omega, by omega⟩)) rfl rfl rfl (gj_step (y_ld0 (reads_sl) Try.isAgg3 rfl (hv) rfl) rfl rfl rfl (gj_step (y_add rfl rfl (by omega)) rfl rfl rfl (gj_step (y_assign rfl) rfl rfl rfl (gj_nil ?_))))))))))))
      refine ej_blk (ej_th ?_)
      refine cj_regionG (gj_step (y_move rfl) rfl rfl rfl (gj_step (y_add rfl rfl (by omega)) rfl rfl rfl (gj_step (y_assign rfl) rfl rfl rfl (gj_nil ?_))))
      exact ej_nx (k + 1, n + v) (by simp only; omega) ⟨by first | omega | (simp only; omega), by first | omega | (simp only; omega), hsk⟩ ⟨rfl, rfl, rfl, rfl, rfl, trivial⟩
    · have h19b := h19
      try simp only [sxb] at h19
      rw [if_neg (by omega)] at hsk
      refine cj_regionG (gj_step (y_move rfl) rfl rfl rfl (gj_step (y_fa0 fa60_0 rfl) rfl rfl rfl (gj_step (y_load1 Try.isAgg43 rfl rfl) rfl rfl rfl (gj_step (y_move rfl) rfl rfl rfl (gj_step (y_ixR (reads_sl) Try.underlying43 Try.sizeOf3 rfl rfl (⟨by omega, by omega⟩)) rfl rfl rfl (gj_step (y_ld0 (reads_sl) Try.isAgg3 rfl (hx) rfl) rfl rfl rfl (gj_step (y_add rfl rfl (by omega)) rfl rfl rfl (gj_step (y_assign rfl) rfl rfl rfl (gj_nil ?_)))))))))
      refine ej_blk (ej_th ?_)
      refine cj_regionG (gj_step (y_move rfl) rfl rfl rfl (gj_step (y_add rfl rfl (by omega)) rfl rfl rfl (gj_step (y_assign rfl) rfl rfl rfl (gj_nil ?_))))
      exact ej_nx (k + 1, n + x) (by simp only; omega) ⟨by first | omega | (simp only; omega), by first | omega | (simp only; omega), hsk⟩ ⟨rfl, rfl, rfl, rfl, rfl, trivial⟩
  · have h12b := h12
    try simp only [sxb] at h12
    refine cj_exit (ej_then_exit (ej_then_exit (ej_blk_hit (ej_th (cj_seq ?_)))))
    refine cj_regionG (gj_step (y_move rfl) rfl rfl rfl (gj_step (y_assign rfl) rfl rfl rfl (gj_nil ?_)))
    refine ej_th (cj_ret ?_)
    refine ej_ret1 rfl Try.results83 rfl (fun w' hp => ⟨?_, hp.below⟩)
    rw [List.drop_of_length_le (show res.length ≤ k by omega)] at hsk
    rw [← hsk]; rfl

theorem k_rWorth (res : List Int) (Ar : Option Addr) (cr : Nat) (vs : List ListV) (Av : Option Addr) (cv : Nat) (to : List Int) (At : Option Addr) (ct : Nat) (w : World) (hres : Rd w 1 enInt Ar res) (hvs : Rd w 1 encLs Av vs) (hgv : ∀ r ∈ vs, GoodL w r) (hto : Rd w 1 enInt At to) : Calls Try.prog 39 #[.agg #[.slice Ar res.length cr, .slice Av vs.length cv], .slice At to.length ct] w (fun e w' => e = .returned (.tuple #[.int .i64 (WorV res vs to), .int .i64 (WorE res vs to)]) ∧ Grow w w') := by
  refine enter_pure (args := [.agg #[.slice Ar res.length cr, .slice Av vs.length cv], .slice At to.length ct]) [sl (fun b => b < w.heap.size) 1 enInt Ar res, sl (fun b => b < w.heap.size) 1 encLs Av vs, sl (fun b => b < w.heap.size) 1 enInt At to] Try.func39 rfl (by rw [Try.ntmps39]; simp) (fun g hg => by simp at hg; rcases hg with rfl | rfl | rfl; exact ⟨hres, fun _ h => h⟩; exact ⟨hvs, fun _ h => h⟩; exact ⟨hto, fun _ h => h⟩) ?_
  refine cj_seq (cj_region ?_)
  refine oj_box rfl rfl rfl (fun b2 => ?_)
  refine oj_step (y_assign rfl) rfl rfl rfl ?_
  refine oj_step (y_assign rfl) rfl rfl rfl ?_
  refine oj_nil ?_
  refine ej_th (cj_seq (cj_seq ?_))
  refine cj_regionG ?_
  refine gj_step (y_loadN Try.isAgg60 Try.sizeOf60 rfl) rfl rfl rfl (?_)
  refine gj_step (y_call Try.call41 rfl (fun w hp => k_rCheckC res Ar cr vs Av cv w hp.rd hp.rd (fun r h => (hgv r h).mono hp.below))) rfl rfl rfl ?_
  refine gj_step (y_assign rfl) rfl rfl rfl (?_)
  refine gj_nil ?_
  refine ej_th (cj_seq ?_)
  refine cj_regionG (gj_step (y_move rfl) rfl rfl rfl (gj_step (y_neq rfl rfl) rfl rfl rfl (gj_nil ?_)))
  refine ej_th ?_
  refine cj_cond rfl (fun h10 => ?_) (fun h10 => ?_)
  · have h10b := h10
    try simp only [sxb] at h10
    obtain ⟨e1, e2⟩ := wor_no (to := to) (cloE_no h10b)
    have hno := cloE_no h10b
    refine cj_seq ?_
    refine cj_regionG (gj_step (y_move rfl) rfl rfl rfl (gj_step (y_assign rfl) rfl rfl rfl (gj_step (y_assign rfl) rfl rfl rfl (gj_nil ?_))))
    refine ej_th (cj_ret (ej_then_ret ?_))
    refine ej_ret2 rfl Try.results39 rfl rfl (fun w' hp => ⟨?_, hp.below⟩)
    rw [e1, e2, cloE, hno]; rfl
  · have h10b := h10
    try simp only [sxb] at h10
    have hyes := cloE_0 h10b
    obtain ⟨hco, hc5, hc6⟩ := clo_ok hyes
    refine cj_skip (ej_th (cj_seq (cj_seq ?_)))
    refine cj_regionG ?_
    refine gj_step (y_loadN Try.isAgg60 Try.sizeOf60 rfl) rfl rfl rfl (gj_step (y_move rfl) rfl rfl rfl (?_))
    refine gj_step (y_call Try.call82 rfl (fun w hp => k_given res Ar cr vs Av cv to At ct w hp.rd hp.rd hp.rd)) rfl rfl rfl ?_
    refine gj_step (y_not rfl) rfl rfl rfl (?_)
    refine gj_nil ?_
    refine ej_th ?_
    refine cj_cond rfl (fun h15 => ?_) (fun h15 => ?_)
    · have h15b := h15
      try simp only [sxb] at h15
      obtain ⟨e1, e2⟩ := wor_no2 hyes (not_t h15b)
      refine cj_seq ?_
      refine cj_regionG (gj_step (y_assign rfl) rfl rfl rfl (gj_step (y_assign rfl) rfl rfl rfl (gj_nil ?_)))
      refine ej_th (cj_ret (ej_then_ret ?_))
      refine ej_ret2 rfl Try.results39 rfl rfl (fun w' hp => ⟨?_, hp.below⟩)
      rw [e1, e2]
    · have h15b := h15
      try simp only [sxb] at h15
      have hfo := fits_ok (not_f h15b)
      obtain ⟨e1, e2⟩ := wor_yes hyes (not_f h15b)
      refine cj_skip (ej_th (cj_seq ?_))
      refine cj_regionG ?_
      refine gj_step (y_loadN Try.isAgg60 Try.sizeOf60 rfl) rfl rfl rfl (gj_step (y_move rfl) rfl rfl rfl (?_))
      refine gj_step (y_call Try.call83 rfl (fun w hp => k_rworth res Ar cr vs Av cv to At ct w hp.rd hp.rd (fun r h => (hgv r h).mono hp.below) hp.rd hco (by omega))) rfl rfl rfl ?_
      refine gj_step (y_assign rfl) rfl rfl rfl (gj_step (y_assign rfl) rfl rfl rfl (?_))
      refine gj_nil ?_
      refine ej_th (cj_ret ?_)
      refine ej_ret2 rfl Try.results39 rfl rfl (fun w' hp => ⟨?_, hp.below⟩)
      rw [e1, e2, worthP_eq hfo.1, worthR_eq hfo.1]

end Go.Proofs.Ytehmifpofpifkaa
namespace Go.Proofs.Ytehmifpofpifkaa
open Go.Sx Go.RowKit Am
set_option maxRecDepth 20000
theorem k_Bit (n k : Nat) (w : World) (hk : k ≤ 64) : Calls Try.prog 79 #[.int .i64 n, .int .i64 k] w (fun e w' => e = .returned (.bool (n.testBit k)) ∧ Grow w w') := by
  refine enter_pure (args := [.int .i64 n, .int .i64 k]) [] Try.func79 rfl (by rw [Try.ntmps79]; simp) (by simp) ?_
  refine cj_seq ?_
  refine cj_regionG (gj_step (y_assign rfl) rfl rfl rfl (gj_nil ?_))
  refine ej_th (cj_seq ?_)
  refine cj_regionG (gj_step (y_move rfl) rfl rfl rfl (gj_step (y_move rfl) rfl rfl rfl (gj_step (y_shr rfl rfl hk) rfl rfl rfl (gj_step (y_rem rfl rfl (Int.natCast_nonneg _) (by omega)) rfl rfl rfl (gj_step (y_eql rfl rfl) rfl rfl rfl (gj_step (y_assign rfl) rfl rfl rfl (gj_nil ?_)))))))
  refine ej_th (cj_ret ?_)
  refine ej_ret1 rfl Try.results79 rfl (fun w' hp => ⟨?_, hp.below⟩)
  rw [← bit_T n k]

set_option maxHeartbeats 1000000 in
theorem k_most1 (res : List Int) (Ar : Option Addr) (cr : Nat) (vs : List ListV) (Av : Option Addr) (cv : Nat) (fm f : Nat) (w : World) (hres : Rd w 1 enInt Ar res) (hvs : Rd w 1 encLs Av vs) (hgv : ∀ r ∈ vs, GoodL w r) (hco : CloOk res (rowsV vs)) (hfm : fm ≤ vs.length) (hf : f < 4096) (ih : ∀ (fm1 f1 : Nat) (w1 : World), fm1 = fm + 1 → fm < vs.length → f1 < 4096 → Grow w w1 → Calls Try.prog 103 #[.agg #[.slice Ar res.length cr, .slice Av vs.length cv], .int .i64 fm1, .int .i64 f1] w1 (fun e w' => e = .returned (.int .i64 (mostR res ((rowsV vs).drop fm1) f1)) ∧ Grow w1 w')) : Calls Try.prog 103 #[.agg #[.slice Ar res.length cr, .slice Av vs.length cv], .int .i64 fm, .int .i64 f] w (fun e w' => e = .returned (.int .i64 (mostR res ((rowsV vs).drop fm) f)) ∧ Grow w w') := by
  have hlr := hres.len
  have hlv := hvs.len
  have h6 := hco.m
  have h6v := hco.n
  rw [rowsV_len] at h6v
  refine enter_pure (args := [.agg #[.slice Ar res.length cr, .slice Av vs.length cv], .int .i64 fm, .int .i64 f]) [sl (fun b => b < w.heap.size) 1 enInt Ar res, sl (fun b => b < w.heap.size) 1 encLs Av vs] Try.func103 rfl (by rw [Try.ntmps103]; simp) (fun g hg => by simp at hg; rcases hg with rfl | rfl; exact ⟨hres, fun _ h => h⟩; exact ⟨hvs, fun _ h => h⟩) ?_
  refine cj_seq (cj_region ?_)
  refine oj_box rfl rfl rfl (fun b3 => ?_)
  refine oj_step (y_assign rfl) rfl rfl rfl ?_
  refine oj_nil ?_
  refine ej_th (cj_seq (cj_seq ?_))
  refine cj_regionG (gj_step (y_move rfl) rfl rfl rfl (gj_step (y_fa fa60_1 rfl) rfl rfl rfl (gj_step (y_load1 Try.isAgg58 rfl rfl) rfl rfl rfl (gj_step (y_lenA Try.underlying58 rfl) rfl rfl rfl (gj_step (y_eql rfl rfl) rfl rfl rfl (gj_nil ?_))))))
  refine ej_th ?_
  refine cj_cond rfl (fun h15 => ?_) (fun h15 => ?_)
  · have h15b := h15
    try simp only [sxb] at h15
    have hfe : (rowsV vs).drop fm = [] := List.drop_of_length_le (by rw [rowsV_len]; omega)
    refine cj_seq ?_
    refine cj_regionG (gj_step (y_assign rfl) rfl rfl rfl (gj_nil ?_))
    refine ej_th (cj_seq (cj_seq ?_))
    refine cj_regionG (gj_step (y_assign rfl) rfl rfl rfl (gj_nil ?_))
    refine ej_th (cj_block ?_)
    refine cj_lpic (X := Nat × Int) [(1, _), (2, _), (3, _), (6, _)] (fun ⟨j, n⟩ => j ≤ res.length ∧ (0 ≤ n ∧ n ≤ 100000 * j) ∧ frG f (res.drop j) j n = freeR res f) (fun ⟨j, n⟩ => [(7, .int .i64 n), (8, .int .i64 j)]) (fun ⟨j, n⟩ => res.length - j) (0, 0) (⟨Nat.zero_le _, by omega, frG_free f res⟩) ⟨rfl, rfl, rfl, rfl, rfl, rfl, trivial⟩ ?_
    rintro ⟨j, n⟩ ⟨hj, hnb, hsk⟩
    dsimp only [List.cons_append, List.nil_append]
    refine cj_seq (cj_seq ?_)
    refine cj_regionG (gj_step (y_move rfl) rfl rfl rfl (gj_step (y_fa0 fa60_0 rfl) rfl rfl rfl (gj_step (y_load1 Try.isAgg43 rfl rfl) rfl rfl rfl (gj_step (y_lenA Try.underlying43 rfl) rfl rfl rfl (gj_step (y_lss rfl rfl) rfl rfl rfl (gj_nil ?_))))))
    refine ej_th ?_
    refine cj_cond rfl (fun h20 => ?_) (fun h20 => ?_)
    · have h20b := h20
      try simp only [sxb] at h20
      obtain ⟨x, hx⟩ : ∃ x, res[j]? = some x := ⟨_, List.getElem?_eq_getElem (by omega)⟩
      have hxb := hco.res x (List.mem_of_getElem? hx)
      rw [frG_drop f res j x n hx] at hsk
      refine cj_skip (ej_th (cj_seq (cj_block (cj_seq ?_))))
      refine cj_regionG ?_
      refine gj_step (y_move rfl) rfl rfl rfl (gj_step (y_move rfl) rfl rfl rfl (?_))
      refine gj_step (y_call Try.call79 rfl (fun w hp => k_Bit f j w (by omega))) rfl rfl rfl ?_
      refine gj_nil ?_
      refine ej_th ?_
      refine cj_cond rfl (fun h25 => ?_) (fun h25 => ?_)
      · have h25b := h25
        try simp only [sxb] at h25
        rw [if_pos h25b] at hsk
        refine cj_regionG (gj_step (y_move rfl) rfl rfl rfl (gj_step (y_fa0 fa60_0 rfl) rfl rfl rfl (gj_step (y_load1 Try.isAgg43 rfl rfl) rfl rfl rfl (gj_step (y_move rfl) rfl rfl rfl (gj_step (y_ixR (reads_sl) Try.underlying43 Try.sizeOf3 rfl rfl (⟨by omega, by omega⟩)) rfl rfl rfl (gj_step (y_ld0 (reads_sl) Try.isAgg3 rfl (hx) rfl) rfl rfl rfl (gj_step (y_add rfl rfl (by omega)) rfl rfl rfl (gj_step (y_assign rfl) rfl rfl rfl (gj_nil ?_)))))))))
        refine ej_blk (ej_th ?_)
        refine cj_regionG (gj_step (y_move rfl) rfl rfl rfl (gj_step (y_add rfl rfl (by omega)) rfl rfl rfl (gj_step (y_assign rfl) rfl rfl rfl (gj_nil ?_))))
        exact ej_nx (j + 1, n + x) (by simp only; omega) ⟨by first | omega | (simp only; omega), by first | omega | (simp only; omega), hsk⟩ ⟨rfl, rfl, rfl, rfl, rfl, rfl, trivial⟩
      · have h25b := h25
        try simp only [sxb] at h25
        rw [if_neg (by rw [h25b]; simp)] at hsk
        refine cj_skip (ej_blk (ej_th ?_))
        refine cj_regionG (gj_step (y_move rfl) rfl rfl rfl (gj_step (y_add rfl rfl (by omega)) rfl rfl rfl (gj_step (y_assign rfl) rfl rfl rfl (gj_nil ?_))))
        exact ej_nx (j + 1, n) (by simp only; omega) ⟨by first | omega | (simp only; omega), by first | omega | (simp only; omega), hsk⟩ ⟨rfl, rfl, rfl, rfl, rfl, rfl, trivial⟩
    · have h20b := h20
      try simp only [sxb] at h20
      rw [List.drop_of_length_le (by omega)] at hsk
      refine cj_exit (ej_then_exit (ej_then_exit (ej_blk_hit (ej_th (cj_seq ?_)))))
      refine cj_regionG (gj_step (y_move rfl) rfl rfl rfl (gj_step (y_assign rfl) rfl rfl rfl (gj_nil ?_)))
      refine ej_th (cj_ret (ej_then_ret ?_))
      refine ej_ret1 rfl Try.results103 rfl (fun w' hp => ⟨?_, hp.below⟩)
      rw [hfe, mostR, ← hsk]; rfl
  · have h15b := h15
    try simp only [sxb] at h15
    obtain ⟨r, hr⟩ : ∃ r, vs[fm]? = some r := ⟨_, List.getElem?_eq_getElem (by omega)⟩
    have hgr := hgv r (List.mem_of_getElem? hr)
    have hrl := hgr.len
    have hrm : r.l.length = res.length := hco.len _ (List.mem_of_getElem? (rowsV_get hr))
    have hdr : (rowsV vs).drop fm = r.l :: (rowsV vs).drop (fm + 1) := by
      have h1 := rowsV_get hr
      obtain ⟨h2, h3⟩ := List.getElem?_eq_some_iff.1 h1
      rw [List.drop_eq_getElem_cons h2, h3]
    have hmr : mostR res ((rowsV vs).drop fm) f = mostJ r.l f (mostR res ((rowsV vs).drop (fm + 1))) res.length 0 (mostR res ((rowsV vs).drop (fm + 1)) f) := by rw [hdr]; rfl
    rw [hmr]
    refine cj_rd hgr (fun _ h => h) ?_
    refine cj_skip (ej_th (cj_seq ?_))
    refine cj_regionG ?_
    refine gj_step (y_loadN Try.isAgg60 Try.sizeOf60 rfl) rfl rfl rfl (gj_step (y_move rfl) rfl rfl rfl (gj_step (y_add rfl rfl (by omega)) rfl rfl rfl (gj_step (y_move rfl) rfl rfl rfl (?_))))
    refine gj_step (y_call Try.call103 rfl (fun w hp => ih (fm + 1) f w rfl (by omega) hf hp.below)) rfl rfl rfl ?_
    refine gj_step (y_assign rfl) rfl rfl rfl (?_)
    refine gj_nil ?_
    refine ej_th (cj_seq (cj_seq ?_))
    refine cj_regionG (gj_step (y_assign rfl) rfl rfl rfl (gj_nil ?_))
    refine ej_th (cj_block ?_)
    refine cj_lpic (X := Nat × Int) [(1, _), (2, _), (3, _), (6, _)] (fun ⟨j, b⟩ => j ≤ res.length ∧ mostJ r.l f (mostR res ((rowsV vs).drop (fm + 1))) (res.length - j) j b = mostJ r.l f (mostR res ((rowsV vs).drop (fm + 1))) res.length 0 (mostR res ((rowsV vs).drop (fm + 1)) f)) (fun ⟨j, b⟩ => [(9, .int .i64 b), (10, .int .i64 j)]) (fun ⟨j, b⟩ => res.length - j) (0, _) (⟨Nat.zero_le _, rfl⟩) ⟨rfl, rfl, rfl, rfl, rfl, rfl, trivial⟩ ?_
    rintro ⟨j, b⟩ ⟨hj, hsk⟩
    dsimp only [List.cons_append, List.nil_append]
    refine cj_seq (cj_seq ?_)
    refine cj_regionG (gj_step (y_move rfl) rfl rfl rfl (gj_step (y_fa0 fa60_0 rfl) rfl rfl rfl (gj_step (y_load1 Try.isAgg43 rfl rfl) rfl rfl rfl (gj_step (y_lenA Try.underlying43 rfl) rfl rfl rfl (gj_step (y_lss rfl rfl) rfl rfl rfl (gj_nil ?_))))))
    refine ej_th ?_
    refine cj_cond rfl (fun h43 => ?_) (fun h43 => ?_)
    · have h43b := h43
      try simp only [sxb] at h43
      obtain ⟨d, hd⟩ : ∃ d, res.length - j = d + 1 := ⟨res.length - j - 1, by omega⟩
      rw [hd, mostJ_s, show d = res.length - (j + 1) by omega] at hsk
      refine cj_skip (ej_th (cj_seq (cj_block (cj_seq ?_))))
      refine cj_regionG ?_
      refine gj_step (y_move rfl) rfl rfl rfl (gj_step (y_move rfl) rfl rfl rfl (?_))
      refine gj_step (y_call Try.call79 rfl (fun w hp => k_Bit f j w (by omega))) rfl rfl rfl ?_
      refine gj_nil ?_
      refine ej_th ?_
      refine cj_cond rfl (fun h48 => ?_) (fun h48 => ?_)
      · have h48b := h48
        try simp only [sxb] at h48
        have hge := Nat.ge_two_pow_of_testBit h48b
        have hv : r.l[j]? = some (r.l.getD j 0) := by rw [List.getD_eq_getElem?_getD, List.getElem?_eq_getElem (by omega)]; rfl
        have hvb := hco.val _ (List.mem_of_getElem? (rowsV_get hr)) _ (List.mem_of_getElem? hv)
        rw [if_pos h48b] at hsk
        refine cj_draw (by kernel_rfl) (by kernel_rfl) ?_
        refine gj_step (y_move rfl) rfl rfl rfl (gj_step (y_fa fa60_1 rfl) rfl rfl rfl (gj_step (y_load1 Try.isAgg58 rfl rfl) rfl rfl rfl (gj_step (y_move rfl) rfl rfl rfl (gj_step (y_ixR (reads_sl) Try.underlying58 Try.sizeOf43 rfl rfl (⟨by omega, by omega⟩)) rfl rfl rfl (gj_step (y_ld0 (reads_sl) Try.isAgg43 rfl (hr) rfl) rfl rfl rfl (gj_step (y_move rfl) rfl rfl rfl (gj_step (y_ixR (reads_sl) Try.underlying43 Try.sizeOf3 rfl rfl (⟨by omega, by omega⟩)) rfl rfl rfl (gj_step (y_ld0 (reads_sl) Try.isAgg3 rfl (hv) rfl) rfl rfl rfl (gj_step (y_loadN Try.isAgg60 Try.sizeOf60 rfl) rfl rfl rfl (gj_step (y_move rfl) rfl rfl rfl (gj_step (y_add rfl rfl (by omega)) rfl rfl rfl (gj_step (y_move rfl) rfl rfl rfl (gj_step (y_move rfl) rfl rfl rfl (gj_step (y_shl1 rfl rfl (by omega)) rfl rfl rfl (gj_step (y_subN rfl rfl hge) rfl rfl rfl (?_))))))))))))))))
        refine gj_step (y_call Try.call103 rfl (fun w hp => ih (fm + 1) (f - 2 ^ j) w rfl (by omega) (Nat.lt_of_le_of_lt (Nat.sub_le ..) hf) hp.below)) rfl rfl rfl ?_
        refine gj_step (y_add rfl rfl (by have := most_bd (hco.drop (fm + 1)) (f - 2 ^ j); rw [List.length_drop, rowsV_len] at this; omega)) rfl rfl rfl (gj_step (y_max rfl rfl) rfl rfl rfl (gj_step (y_assign rfl) rfl rfl rfl (?_)))
        refine gj_nil ?_
        refine ej_blk (ej_th ?_)
        refine cj_regionG (gj_step (y_move rfl) rfl rfl rfl (gj_step (y_add rfl rfl (by omega)) rfl rfl rfl (gj_step (y_assign rfl) rfl rfl rfl (gj_nil ?_))))
        exact ej_nx (j + 1, max b (r.l.getD j 0 + mostR res ((rowsV vs).drop (fm + 1)) (f - 2 ^ j))) (by simp only; omega) ⟨by first | omega | (simp only; omega), hsk⟩ ⟨rfl, rfl, rfl, rfl, rfl, rfl, trivial⟩
      · have h48b := h48
        try simp only [sxb] at h48
        rw [if_neg (by rw [h48b]; simp)] at hsk
        refine cj_skip (ej_blk (ej_th ?_))
        refine cj_regionG (gj_step (y_move rfl) rfl rfl rfl (gj_step (y_add rfl rfl (by omega)) rfl rfl rfl (gj_step (y_assign rfl) rfl rfl rfl (gj_nil ?_))))
        exact ej_nx (j + 1, b) (by simp only; omega) ⟨by first | omega | (simp only; omega), hsk⟩ ⟨rfl, rfl, rfl, rfl, rfl, rfl, trivial⟩
    · have h43b := h43
      try simp only [sxb] at h43
      rw [show res.length - j = 0 by omega, mostJ] at hsk
      refine cj_exit (ej_then_exit (ej_then_exit (ej_blk_hit (ej_th (cj_seq ?_)))))
      refine cj_regionG (gj_step (y_move rfl) rfl rfl rfl (gj_step (y_assign rfl) rfl rfl rfl (gj_nil ?_)))
      refine ej_th (cj_ret ?_)
      refine ej_ret1 rfl Try.results103 rfl (fun w' hp => ⟨?_, hp.below⟩)
      rw [← hsk]

end Go.Proofs.Ytehmifpofpifkaa
namespace Go.Proofs.Ytehmifpofpifkaa
open Go.Sx Go.RowKit Am
set_option maxRecDepth 20000
theorem k_most (res : List Int) (Ar : Option Addr) (cr : Nat) (vs : List ListV) (Av : Option Addr) (cv : Nat) (hco : CloOk res (rowsV vs)) : ∀ (d fm f : Nat) (w : World) (_ : vs.length - fm = d) (_ : Rd w 1 enInt Ar res) (_ : Rd w 1 encLs Av vs) (_ : ∀ r ∈ vs, GoodL w r) (_ : fm ≤ vs.length) (_ : f < 4096), Calls Try.prog 103 #[.agg #[.slice Ar res.length cr, .slice Av vs.length cv], .int .i64 fm, .int .i64 f] w (fun e w' => e = .returned (.int .i64 (mostR res ((rowsV vs).drop fm) f)) ∧ Grow w w') := by
  intro d
  induction d with
  | zero => intro fm f w hd hres hvs hgv hfm hf; exact k_most1 res Ar cr vs Av cv fm f w hres hvs hgv hco hfm hf (fun fm1 f1 w1 _ h => absurd h (by omega))
  | succ d ih => intro fm f w hd hres hvs hgv hfm hf; exact k_most1 res Ar cr vs Av cv fm f w hres hvs hgv hco hfm hf (fun fm1 f1 w1 h1 h2 h3 hg => ih fm1 f1 w1 (by omega) (Rd.mono hres hg) (Rd.mono hvs hg) (fun r hr => (hgv r hr).mono hg) (by omega) h3)

theorem k_Most (res : List Int) (Ar : Option Addr) (cr : Nat) (vs : List ListV) (Av : Option Addr) (cv : Nat) (w : World) (hres : Rd w 1 enInt Ar res) (hvs : Rd w 1 encLs Av vs) (hgv : ∀ r ∈ vs, GoodL w r) (hco : CloOk res (rowsV vs)) : Calls Try.prog 85 #[.agg #[.slice Ar res.length cr, .slice Av vs.length cv]] w (fun e w' => e = .returned (.int .i64 (mostR res (rowsV vs) (2 ^ res.length - 1))) ∧ Grow w w') := by
  have hlr := hres.len
  have hlv := hvs.len
  have h6 := hco.m
  have hp2 : 2 ^ res.length ≤ 2 ^ 6 := Nat.pow_le_pow_right (by decide) h6
  have hp1 := Nat.two_pow_pos res.length
  refine enter_pure (args := [.agg #[.slice Ar res.length cr, .slice Av vs.length cv]]) [sl (fun b => b < w.heap.size) 1 enInt Ar res, sl (fun b => b < w.heap.size) 1 encLs Av vs] Try.func85 rfl (by rw [Try.ntmps85]; simp) (fun g hg => by simp at hg; rcases hg with rfl | rfl; exact ⟨hres, fun _ h => h⟩; exact ⟨hvs, fun _ h => h⟩) ?_
  refine cj_seq (cj_region ?_)
  refine oj_box rfl rfl rfl (fun b1 => ?_)
  refine oj_step (y_assign rfl) rfl rfl rfl ?_
  refine oj_nil ?_
  refine ej_th (cj_seq ?_)
  refine cj_draw (by kernel_rfl) (by kernel_rfl) ?_
  refine gj_step (y_loadN Try.isAgg60 Try.sizeOf60 rfl) rfl rfl rfl (gj_step (y_fa0 fa60_0 rfl) rfl rfl rfl (gj_step (y_load1 Try.isAgg43 rfl rfl) rfl rfl rfl (gj_step (y_lenA Try.underlying43 rfl) rfl rfl rfl (gj_step (y_shl1 rfl rfl (by omega)) rfl rfl rfl (gj_step (y_subN (b := 1) rfl rfl (by omega)) rfl rfl rfl (?_))))))
  refine gj_step (y_call Try.call103 rfl (fun w hp => k_most res Ar cr vs Av cv hco vs.length 0 (2 ^ res.length - 1) w (by omega) hp.rd hp.rd (fun r h => (hgv r h).mono hp.below) (Nat.zero_le _) (by omega))) rfl rfl rfl ?_
  refine gj_step (y_assign rfl) rfl rfl rfl (?_)
  refine gj_nil ?_
  refine ej_th (cj_ret ?_)
  exact ej_ret1 rfl Try.results85 rfl (fun w' hp => ⟨rfl, hp.below⟩)

theorem k_Own (l : List Int) (A : Option Addr) (c : Nat) (w : World) (hl : Rd w 1 enInt A l) (h8 : l.length ≤ 1000000) : Calls Try.prog 36 #[.slice A l.length c] w (fun e w' => ∃ B d, e = .returned (.slice B l.length d) ∧ Grow w w' ∧ (ow 3 1 enInt B d l).P w' ∧ ∀ b, (ow 3 1 enInt B d l).fp b → w.heap.size ≤ b) := by
  refine enter_pure (args := [.slice A l.length c]) [sl (fun b => b < w.heap.size) 1 enInt A l] Try.func36 rfl (by rw [Try.ntmps36]; simp) (fun g hg => by simp at hg; subst hg; exact ⟨hl, fun _ h => h⟩) ?_
  refine cj_seq ?_
  refine cj_regionG (gj_step (y_assign rfl) rfl rfl rfl (gj_nil ?_))
  refine ej_th (cj_seq (cj_region ?_))
  refine oj_buildSlice (cs := []) [] Try.underlying43 Try.sizeOf3 Try.zeroValue3 rfl rfl (by kernel_rfl) (by kernel_rfl) rfl (fun b3 => ?_)
  refine oj_litOw (b := b3) (e := 3) (c := 0) (sz := 1) (enc := enInt) [] rfl rfl rfl (by unfold maxLen; simp) ?_
  refine oj_step (y_move rfl) rfl rfl rfl ?_
  refine oj_append (xs := ([] : List Int)) (c := 0) el43 (fun _ => rfl) enInt_one rfl rfl rfl (reads_sl) (by unfold maxLen; simp only [List.length_nil]; omega) (by simp only [List.length_nil]; omega) rfl (fun A5 c5 => ?_)
  refine oj_step (y_assign rfl) rfl rfl rfl ?_
  refine oj_nil ?_
  refine ej_th (cj_ret ?_)
  exact ej_ret1 rfl Try.results36 rfl (fun w' hp => ⟨A5, c5, by simp, hp.below, by have h9 := hp.resO (A := A5) (e := 3) (c := c5) (sz := 1) (enc := enInt) (xs := [] ++ l); simpa using h9⟩)

set_option maxHeartbeats 1000000 in
theorem k_again (res : List Int) (Ar : Option Addr) (cr : Nat) (vs : List ListV) (Av : Option Addr) (cv : Nat) (k : Nat) (w : World) (hres : Rd w 1 enInt Ar res) (hvs : Rd w 1 encLs Av vs) (hgv : ∀ r ∈ vs, GoodL w r) (hco : CloOk res (rowsV vs)) (hk : k < res.length) : Calls Try.prog 86 #[.agg #[.slice Ar res.length cr, .slice Av vs.length cv], .int .i64 (k : Nat)] w (fun e w' => ∃ z : { z : WithZ // rowsV z.rows = withV (rowsV vs) k }, e = .returned (.agg #[.slice z.1.B (withR res k).length z.1.d, .slice z.1.Bv z.1.rows.length z.1.dv]) ∧ Grow w w' ∧ (∀ g ∈ ([] : List Fact), g.P w' ∧ ∀ b, g.fp b → w.heap.size ≤ b ∧ b < w'.heap.size) ∧ ([] : List Fact).Pairwise (fun f g => ∀ b, f.fp b → ¬ g.fp b) ∧ (∀ g ∈ [sl (fun i => z.1.n1 ≤ i ∧ i < z.1.n2) 1 enInt z.1.B (withR res k), sl (fun i => z.1.n1 ≤ i ∧ i < z.1.n2) 1 encLs z.1.Bv z.1.rows, rwF (fun i => z.1.n1 ≤ i ∧ i < z.1.n2) z.1.rows], g.P w' ∧ ∀ b, g.fp b → w.heap.size ≤ b ∧ b < w'.heap.size ∧ ∀ o ∈ ([] : List Fact), ¬ o.fp b)) := by
  have hlr := hres.len
  have hlv := hvs.len
  have h6 := hco.m
  have h6v := hco.n
  rw [rowsV_len] at h6v
  have hxk : res[((k : Nat) : Int).toNat]? = some (res.getD k 0) := by rw [show ((k : Nat) : Int).toNat = k by omega, List.getD_eq_getElem?_getD, List.getElem?_eq_getElem hk]; rfl
  refine enter_pure (args := [.agg #[.slice Ar res.length cr, .slice Av vs.length cv], .int .i64 (k : Nat)]) [sl (fun b => b < w.heap.size) 1 enInt Ar res, sl (fun b => b < w.heap.size) 1 encLs Av vs] Try.func86 rfl (by rw [Try.ntmps86]; simp) (fun g hg => by simp at hg; rcases hg with rfl | rfl; exact ⟨hres, fun _ h => h⟩; exact ⟨hvs, fun _ h => h⟩) ?_
  refine cj_seq (cj_region ?_)
  refine oj_box rfl rfl rfl (fun b2 => ?_)
  refine oj_alloc Try.zeroValue60 rfl rfl (fun b4 => ?_)
  refine oj_nil ?_
  refine ej_th ?_
  refine cj_cuti (X := Nat × Option Addr × Nat) [(1, _), (2, _), (4, _)] ⟨rfl, rfl, rfl, trivial⟩ (fun ⟨b5, A16, c16⟩ => True) (fun ⟨b5, A16, c16⟩ => [(5, .pointer (some ⟨b5, 0, none⟩))]) (fun ⟨b5, A16, c16⟩ => [ow 3 1 enInt A16 c16 (res ++ [res.getD k 0]), ownB b5 (cellsB 60 [.slice A16 (res ++ [res.getD k 0]).length c16, .slice none 0 0]), ownB b4 (cellsB 60 [.slice none 0 0, .slice none 0 0]), ownB b2 (cellsB 60 [.slice Ar res.length cr, .slice Av vs.length cv])]) (fun ⟨b5, A16, c16⟩ => [sl (fun b => b < w.heap.size) 1 enInt Ar res, sl (fun b => b < w.heap.size) 1 encLs Av vs]) ?_ ?_
  · refine cj_plan 13 (by kernel_rfl) (by kernel_rfl) ?_
    refine pl_y 0 rfl (y_fa0 fa60_0 rfl) rfl rfl rfl rfl (by kernel_rfl) ?_
    refine pl_y 1 rfl (y_load1 Try.isAgg43 rfl rfl) rfl rfl rfl rfl (by kernel_rfl) ?_
    refine pl_y 3 rfl (y_fa0 fa60_0 rfl) rfl rfl rfl rfl (by kernel_rfl) ?_
    refine pl_y 4 rfl (y_load1 Try.isAgg43 rfl rfl) rfl rfl rfl rfl (by kernel_rfl) ?_
    refine pl_y 5 rfl (y_move rfl) rfl rfl rfl rfl (by kernel_rfl) ?_
    refine pl_y 6 rfl (y_ixR (reads_sl) Try.underlying43 Try.sizeOf3 rfl rfl (⟨by omega, by omega⟩)) rfl rfl rfl rfl (by kernel_rfl) ?_
    refine pl_y 7 rfl (y_ld0 (reads_sl) Try.isAgg3 rfl (hxk) rfl) rfl rfl rfl rfl (by kernel_rfl) ?_
    refine pl_w3 2 8 11 (by kernel_rfl) rfl rfl (pl_fire rfl rfl rfl (by kernel_rfl) ?_) (pl_fire rfl rfl rfl (by kernel_rfl) ?_) (pl_fire rfl rfl rfl (by kernel_rfl) ?_)
    · refine oj_callO (fun B d => .slice B (res).length d) 3 1 enInt (res) Try.call36 rfl (fun w hp => k_Own (res) Ar cr w hp.rd (by omega)) rfl (fun B9 e9 => ?_)
      refine oj_nil ?_
      refine ej_pl (lt_y (y_ld0 (reads_sl) Try.isAgg3 rfl (hxk) rfl) rfl (lt_y (y_ixR (reads_sl) Try.underlying43 Try.sizeOf3 rfl rfl (⟨by omega, by omega⟩)) rfl (lt_y (y_move rfl) rfl (lt_y (y_load1 Try.isAgg43 rfl rfl) rfl (lt_y (y_fa0 fa60_0 rfl) rfl (lt_w (by kernel_rfl) (lt_y (y_fa0 fa60_0 rfl) rfl (lt_nil)))))))) ?_
      refine pl_w2 8 11 (by kernel_rfl) rfl rfl (pl_fire rfl rfl rfl (by kernel_rfl) ?_) (pl_fire rfl rfl rfl (by kernel_rfl) ?_)
      · refine oj_buildSlice (cs := [.int .i64 (res.getD k 0)]) [.int .i64 0] Try.underlying43 Try.sizeOf3 Try.zeroValue3 rfl rfl (by kernel_rfl) (by kernel_rfl) rfl (fun b15 => ?_)
        refine oj_nil ?_
        refine ej_pl (lt_w (by kernel_rfl) (lt_y (y_ixR (reads_sl) Try.underlying43 Try.sizeOf3 rfl rfl (⟨by omega, by omega⟩)) rfl (lt_y (y_move rfl) rfl (lt_y (y_load1 Try.isAgg43 rfl rfl) rfl (lt_y (y_fa0 fa60_0 rfl) rfl (lt_y (y_load1 Try.isAgg43 rfl rfl) rfl (lt_y (y_fa0 fa60_0 rfl) rfl (lt_nil)))))))) ?_
        refine pl_w2 9 11 (by kernel_rfl) rfl rfl (pl_fire rfl rfl rfl (by kernel_rfl) ?_) (pl_fire rfl rfl rfl (by kernel_rfl) ?_)
        · refine oj_append  el43 (fun _ => rfl) enInt_one rfl rfl rfl (reads_lit [res.getD k 0] (fun _ => rfl) rfl) (by unfold maxLen; simp only [List.length_append, List.length_cons, List.length_nil]; omega) (by simp only [List.length_append, List.length_cons, List.length_nil]; omega) rfl (fun A16 c16 => ?_)
          refine oj_nil ?_
          refine ej_pl (lt_y (y_ld0 (reads_sl) Try.isAgg3 rfl (hxk) rfl) rfl (lt_y (y_ixR (reads_sl) Try.underlying43 Try.sizeOf3 rfl rfl (⟨by omega, by omega⟩)) rfl (lt_y (y_move rfl) rfl (lt_y (y_load1 Try.isAgg43 rfl rfl) rfl (lt_y (y_fa0 fa60_0 rfl) rfl (lt_y (y_load1 Try.isAgg43 rfl rfl) rfl (lt_y (y_fa0 fa60_0 rfl) rfl (lt_nil)))))))) ?_
          refine pl_y 10 rfl (y_build (cs := [.slice A16 (res ++ [res.getD k 0]).length c16, .slice none 0 0]) st60 rfl (by kernel_rfl)) rfl rfl rfl rfl (by kernel_rfl) ?_
          refine pl_w1 11 (by kernel_rfl) rfl rfl (pl_fire rfl rfl rfl (by kernel_rfl) ?_)
          refine oj_alloc Try.zeroValue60 rfl rfl (fun b5 => ?_)
          refine oj_nil ?_
          refine ej_pl (lt_y (y_build (cs := [.slice A16 (res ++ [res.getD k 0]).length c16, .slice none 0 0]) st60 rfl (by kernel_rfl)) rfl (lt_y (y_ld0 (reads_sl) Try.isAgg3 rfl (hxk) rfl) rfl (lt_y (y_ixR (reads_sl) Try.underlying43 Try.sizeOf3 rfl rfl (⟨by omega, by omega⟩)) rfl (lt_y (y_move rfl) rfl (lt_y (y_load1 Try.isAgg43 rfl rfl) rfl (lt_y (y_fa0 fa60_0 rfl) rfl (lt_y (y_load1 Try.isAgg43 rfl rfl) rfl (lt_y (y_fa0 fa60_0 rfl) rfl (lt_nil))))))))) ?_
          refine pl_w1 12 (by kernel_rfl) rfl rfl (pl_fire rfl rfl rfl (by kernel_rfl) ?_)
          refine oj_store rfl rfl rfl rfl Try.sizeOf60 rfl ?_
          refine oj_nil ?_
          refine ej_pl (lt_w (by kernel_rfl) (lt_w (by kernel_rfl) (lt_w (by kernel_rfl) (lt_w (by kernel_rfl) (lt_w (by kernel_rfl) (lt_w (by kernel_rfl) (lt_w (by kernel_rfl) (lt_w (by kernel_rfl) (lt_nil))))))))) ?_
          refine pl_end (by kernel_rfl) ?_
          refine ej_takes [ow 3 1 enInt A16 c16 (res ++ [res.getD k 0]), ownB b5 (cellsB 60 [.slice A16 (res ++ [res.getD k 0]).length c16, .slice none 0 0]), ownB b4 (cellsB 60 [.slice none 0 0, .slice none 0 0]), ownB b2 (cellsB 60 [.slice Ar res.length cr, .slice Av vs.length cv])] ?_
          exact ej_ct (b5, A16, c16) trivial ⟨rfl, rfl, rfl, rfl, trivial⟩
        · refine oj_alloc Try.zeroValue60 rfl rfl (fun b5 => ?_)
          refine oj_nil ?_
          refine ej_pl (lt_y (y_ld0 (reads_sl) Try.isAgg3 rfl (hxk) rfl) rfl (lt_y (y_ixR (reads_sl) Try.underlying43 Try.sizeOf3 rfl rfl (⟨by omega, by omega⟩)) rfl (lt_y (y_move rfl) rfl (lt_y (y_load1 Try.isAgg43 rfl rfl) rfl (lt_y (y_fa0 fa60_0 rfl) rfl (lt_y (y_load1 Try.isAgg43 rfl rfl) rfl (lt_y (y_fa0 fa60_0 rfl) rfl (lt_nil)))))))) ?_
          refine pl_w1 9 (by kernel_rfl) rfl rfl (pl_fire rfl rfl rfl (by kernel_rfl) ?_)
          refine oj_append  el43 (fun _ => rfl) enInt_one rfl rfl rfl (reads_lit [res.getD k 0] (fun _ => rfl) rfl) (by unfold maxLen; simp only [List.length_append, List.length_cons, List.length_nil]; omega) (by simp only [List.length_append, List.length_cons, List.length_nil]; omega) rfl (fun A16 c16 => ?_)
          refine oj_nil ?_
          refine ej_pl (lt_y (y_ld0 (reads_sl) Try.isAgg3 rfl (hxk) rfl) rfl (lt_y (y_ixR (reads_sl) Try.underlying43 Try.sizeOf3 rfl rfl (⟨by omega, by omega⟩)) rfl (lt_y (y_move rfl) rfl (lt_y (y_load1 Try.isAgg43 rfl rfl) rfl (lt_y (y_fa0 fa60_0 rfl) rfl (lt_y (y_load1 Try.isAgg43 rfl rfl) rfl (lt_y (y_fa0 fa60_0 rfl) rfl (lt_nil)))))))) ?_
          refine pl_y 10 rfl (y_build (cs := [.slice A16 (res ++ [res.getD k 0]).length c16, .slice none 0 0]) st60 rfl (by kernel_rfl)) rfl rfl rfl rfl (by kernel_rfl) ?_
          refine pl_w1 12 (by kernel_rfl) rfl rfl (pl_fire rfl rfl rfl (by kernel_rfl) ?_)
          refine oj_store rfl rfl rfl rfl Try.sizeOf60 rfl ?_
          refine oj_nil ?_
          refine ej_pl (lt_w (by kernel_rfl) (lt_w (by kernel_rfl) (lt_w (by kernel_rfl) (lt_w (by kernel_rfl) (lt_w (by kernel_rfl) (lt_w (by kernel_rfl) (lt_w (by kernel_rfl) (lt_w (by kernel_rfl) (lt_nil))))))))) ?_
          refine pl_end (by kernel_rfl) ?_
          refine ej_takes [ow 3 1 enInt A16 c16 (res ++ [res.getD k 0]), ownB b5 (cellsB 60 [.slice A16 (res ++ [res.getD k 0]).length c16, .slice none 0 0]), ownB b4 (cellsB 60 [.slice none 0 0, .slice none 0 0]), ownB b2 (cellsB 60 [.slice Ar res.length cr, .slice Av vs.length cv])] ?_
          exact ej_ct (b5, A16, c16) trivial ⟨rfl, rfl, rfl, rfl, trivial⟩
      · refine oj_alloc Try.zeroValue60 rfl rfl (fun b5 => ?_)
        refine oj_nil ?_
        refine ej_pl (lt_y (y_ld0 (reads_sl) Try.isAgg3 rfl (hxk) rfl) rfl (lt_y (y_ixR (reads_sl) Try.underlying43 Try.sizeOf3 rfl rfl (⟨by omega, by omega⟩)) rfl (lt_y (y_move rfl) rfl (lt_y (y_load1 Try.isAgg43 rfl rfl) rfl (lt_y (y_fa0 fa60_0 rfl) rfl (lt_y (y_load1 Try.isAgg43 rfl rfl) rfl (lt_y (y_fa0 fa60_0 rfl) rfl (lt_nil)))))))) ?_
        refine pl_w1 8 (by kernel_rfl) rfl rfl (pl_fire rfl rfl rfl (by kernel_rfl) ?_)
        refine oj_buildSlice (cs := [.int .i64 (res.getD k 0)]) [.int .i64 0] Try.underlying43 Try.sizeOf3 Try.zeroValue3 rfl rfl (by kernel_rfl) (by kernel_rfl) rfl (fun b15 => ?_)
        refine oj_nil ?_
        refine ej_pl (lt_w (by kernel_rfl) (lt_y (y_ixR (reads_sl) Try.underlying43 Try.sizeOf3 rfl rfl (⟨by omega, by omega⟩)) rfl (lt_y (y_move rfl) rfl (lt_y (y_load1 Try.isAgg43 rfl rfl) rfl (lt_y (y_fa0 fa60_0 rfl) rfl (lt_y (y_load1 Try.isAgg43 rfl rfl) rfl (lt_y (y_fa0 fa60_0 rfl) rfl (lt_nil)))))))) ?_
        refine pl_w1 9 (by kernel_rfl) rfl rfl (pl_fire rfl rfl rfl (by kernel_rfl) ?_)
        refine oj_append  el43 (fun _ => rfl) enInt_one rfl rfl rfl (reads_lit [res.getD k 0] (fun _ => rfl) rfl) (by unfold maxLen; simp only [List.length_append, List.length_cons, List.length_nil]; omega) (by simp only [List.length_append, List.length_cons, List.length_nil]; omega) rfl (fun A16 c16 => ?_)
        refine oj_nil ?_
        refine ej_pl (lt_y (y_ld0 (reads_sl) Try.isAgg3 rfl (hxk) rfl) rfl (lt_y (y_ixR (reads_sl) Try.underlying43 Try.sizeOf3 rfl rfl (⟨by omega, by omega⟩)) rfl (lt_y (y_move rfl) rfl (lt_y (y_load1 Try.isAgg43 rfl rfl) rfl (lt_y (y_fa0 fa60_0 rfl) rfl (lt_y (y_load1 Try.isAgg43 rfl rfl) rfl (lt_y (y_fa0 fa60_0 rfl) rfl (lt_nil)))))))) ?_
        refine pl_y 10 rfl (y_build (cs := [.slice A16 (res ++ [res.getD k 0]).length c16, .slice none 0 0]) st60 rfl (by kernel_rfl)) rfl rfl rfl rfl (by kernel_rfl) ?_
        refine pl_w1 12 (by kernel_rfl) rfl rfl (pl_fire rfl rfl rfl (by kernel_rfl) ?_)
        refine oj_store rfl rfl rfl rfl Try.sizeOf60 rfl ?_
        refine oj_nil ?_
        refine ej_pl (lt_w (by kernel_rfl) (lt_w (by kernel_rfl) (lt_w (by kernel_rfl) (lt_w (by kernel_rfl) (lt_w (by kernel_rfl) (lt_w (by kernel_rfl) (lt_w (by kernel_rfl) (lt_w (by kernel_rfl) (lt_nil))))))))) ?_
        refine pl_end (by kernel_rfl) ?_
        refine ej_takes [ow 3 1 enInt A16 c16 (res ++ [res.getD k 0]), ownB b5 (cellsB 60 [.slice A16 (res ++ [res.getD k 0]).length c16, .slice none 0 0]), ownB b4 (cellsB 60 [.slice none 0 0, .slice none 0 0]), ownB b2 (cellsB 60 [.slice Ar res.length cr, .slice Av vs.length cv])] ?_
        exact ej_ct (b5, A16, c16) trivial ⟨rfl, rfl, rfl, rfl, trivial⟩
    · refine oj_buildSlice (cs := [.int .i64 (res.getD k 0)]) [.int .i64 0] Try.underlying43 Try.sizeOf3 Try.zeroValue3 rfl rfl (by kernel_rfl) (by kernel_rfl) rfl (fun b15 => ?_)
      refine oj_nil ?_
      refine ej_pl (lt_w (by kernel_rfl) (lt_y (y_ixR (reads_sl) Try.underlying43 Try.sizeOf3 rfl rfl (⟨by omega, by omega⟩)) rfl (lt_y (y_move rfl) rfl (lt_y (y_load1 Try.isAgg43 rfl rfl) rfl (lt_y (y_fa0 fa60_0 rfl) rfl (lt_y (y_load1 Try.isAgg43 rfl rfl) rfl (lt_y (y_fa0 fa60_0 rfl) rfl (lt_nil)))))))) ?_
      refine pl_w2 2 11 (by kernel_rfl) rfl rfl (pl_fire rfl rfl rfl (by kernel_rfl) ?_) (pl_fire rfl rfl rfl (by kernel_rfl) ?_)
      · refine oj_callO (fun B d => .slice B (res).length d) 3 1 enInt (res) Try.call36 rfl (fun w hp => k_Own (res) Ar cr w hp.rd (by omega)) rfl (fun B9 e9 => ?_)
        refine oj_nil ?_
        refine ej_pl (lt_y (y_ld0 (reads_sl) Try.isAgg3 rfl (hxk) rfl) rfl (lt_y (y_ixR (reads_sl) Try.underlying43 Try.sizeOf3 rfl rfl (⟨by omega, by omega⟩)) rfl (lt_y (y_move rfl) rfl (lt_y (y_load1 Try.isAgg43 rfl rfl) rfl (lt_y (y_fa0 fa60_0 rfl) rfl (lt_w (by kernel_rfl) (lt_y (y_fa0 fa60_0 rfl) rfl (lt_nil)))))))) ?_
        refine pl_w2 9 11 (by kernel_rfl) rfl rfl (pl_fire rfl rfl rfl (by kernel_rfl) ?_) (pl_fire rfl rfl rfl (by kernel_rfl) ?_)
        · refine oj_append  el43 (fun _ => rfl) enInt_one rfl rfl rfl (reads_lit [res.getD k 0] (fun _ => rfl) rfl) (by unfold maxLen; simp only [List.length_append, List.length_cons, List.length_nil]; omega) (by simp only [List.length_append, List.length_cons, List.length_nil]; omega) rfl (fun A16 c16 => ?_)
          refine oj_nil ?_
          refine ej_pl (lt_y (y_ld0 (reads_sl) Try.isAgg3 rfl (hxk) rfl) rfl (lt_y (y_ixR (reads_sl) Try.underlying43 Try.sizeOf3 rfl rfl (⟨by omega, by omega⟩)) rfl (lt_y (y_move rfl) rfl (lt_y (y_load1 Try.isAgg43 rfl rfl) rfl (lt_y (y_fa0 fa60_0 rfl) rfl (lt_y (y_load1 Try.isAgg43 rfl rfl) rfl (lt_y (y_fa0 fa60_0 rfl) rfl (lt_nil)))))))) ?_
          refine pl_y 10 rfl (y_build (cs := [.slice A16 (res ++ [res.getD k 0]).length c16, .slice none 0 0]) st60 rfl (by kernel_rfl)) rfl rfl rfl rfl (by kernel_rfl) ?_
          refine pl_w1 11 (by kernel_rfl) rfl rfl (pl_fire rfl rfl rfl (by kernel_rfl) ?_)
          refine oj_alloc Try.zeroValue60 rfl rfl (fun b5 => ?_)
          refine oj_nil ?_
          refine ej_pl (lt_y (y_build (cs := [.slice A16 (res ++ [res.getD k 0]).length c16, .slice none 0 0]) st60 rfl (by kernel_rfl)) rfl (lt_y (y_ld0 (reads_sl) Try.isAgg3 rfl (hxk) rfl) rfl (lt_y (y_ixR (reads_sl) Try.underlying43 Try.sizeOf3 rfl rfl (⟨by omega, by omega⟩)) rfl (lt_y (y_move rfl) rfl (lt_y (y_load1 Try.isAgg43 rfl rfl) rfl (lt_y (y_fa0 fa60_0 rfl) rfl (lt_y (y_load1 Try.isAgg43 rfl rfl) rfl (lt_y (y_fa0 fa60_0 rfl) rfl (lt_nil))))))))) ?_
          refine pl_w1 12 (by kernel_rfl) rfl rfl (pl_fire rfl rfl rfl (by kernel_rfl) ?_)
          refine oj_store rfl rfl rfl rfl Try.sizeOf60 rfl ?_
          refine oj_nil ?_
          refine ej_pl (lt_w (by kernel_rfl) (lt_w (by kernel_rfl) (lt_w (by kernel_rfl) (lt_w (by kernel_rfl) (lt_w (by kernel_rfl) (lt_w (by kernel_rfl) (lt_w (by kernel_rfl) (lt_w (by kernel_rfl) (lt_nil))))))))) ?_
          refine pl_end (by kernel_rfl) ?_
          refine ej_takes [ow 3 1 enInt A16 c16 (res ++ [res.getD k 0]), ownB b5 (cellsB 60 [.slice A16 (res ++ [res.getD k 0]).length c16, .slice none 0 0]), ownB b4 (cellsB 60 [.slice none 0 0, .slice none 0 0]), ownB b2 (cellsB 60 [.slice Ar res.length cr, .slice Av vs.length cv])] ?_
          exact ej_ct (b5, A16, c16) trivial ⟨rfl, rfl, rfl, rfl, trivial⟩
        · refine oj_alloc Try.zeroValue60 rfl rfl (fun b5 => ?_)
          refine oj_nil ?_
          refine ej_pl (lt_y (y_ld0 (reads_sl) Try.isAgg3 rfl (hxk) rfl) rfl (lt_y (y_ixR (reads_sl) Try.underlying43 Try.sizeOf3 rfl rfl (⟨by omega, by omega⟩)) rfl (lt_y (y_move rfl) rfl (lt_y (y_load1 Try.isAgg43 rfl rfl) rfl (lt_y (y_fa0 fa60_0 rfl) rfl (lt_y (y_load1 Try.isAgg43 rfl rfl) rfl (lt_y (y_fa0 fa60_0 rfl) rfl (lt_nil)))))))) ?_
          refine pl_w1 9 (by kernel_rfl) rfl rfl (pl_fire rfl rfl rfl (by kernel_rfl) ?_)
          refine oj_append  el43 (fun _ => rfl) enInt_one rfl rfl rfl (reads_lit [res.getD k 0] (fun _ => rfl) rfl) (by unfold maxLen; simp only [List.length_append, List.length_cons, List.length_nil]; omega) (by simp only [List.length_append, List.length_cons, List.length_nil]; omega) rfl (fun A16 c16 => ?_)
          refine oj_nil ?_
          refine ej_pl (lt_y (y_ld0 (reads_sl) Try.isAgg3 rfl (hxk) rfl) rfl (lt_y (y_ixR (reads_sl) Try.underlying43 Try.sizeOf3 rfl rfl (⟨by omega, by omega⟩)) rfl (lt_y (y_move rfl) rfl (lt_y (y_load1 Try.isAgg43 rfl rfl) rfl (lt_y (y_fa0 fa60_0 rfl) rfl (lt_y (y_load1 Try.isAgg43 rfl rfl) rfl (lt_y (y_fa0 fa60_0 rfl) rfl (lt_nil)))))))) ?_
          refine pl_y 10 rfl (y_build (cs := [.slice A16 (res ++ [res.getD k 0]).length c16, .slice none 0 0]) st60 rfl (by kernel_rfl)) rfl rfl rfl rfl (by kernel_rfl) ?_
          refine pl_w1 12 (by kernel_rfl) rfl rfl (pl_fire rfl rfl rfl (by kernel_rfl) ?_)
          refine oj_store rfl rfl rfl rfl Try.sizeOf60 rfl ?_
          refine oj_nil ?_
          refine ej_pl (lt_w (by kernel_rfl) (lt_w (by kernel_rfl) (lt_w (by kernel_rfl) (lt_w (by kernel_rfl) (lt_w (by kernel_rfl) (lt_w (by kernel_rfl) (lt_w (by kernel_rfl) (lt_w (by kernel_rfl) (lt_nil))))))))) ?_
          refine pl_end (by kernel_rfl) ?_
          refine ej_takes [ow 3 1 enInt A16 c16 (res ++ [res.getD k 0]), ownB b5 (cellsB 60 [.slice A16 (res ++ [res.getD k 0]).length c16, .slice none 0 0]), ownB b4 (cellsB 60 [.slice none 0 0, .slice none 0 0]), ownB b2 (cellsB 60 [.slice Ar res.length cr, .slice Av vs.length cv])] ?_
          exact ej_ct (b5, A16, c16) trivial ⟨rfl, rfl, rfl, rfl, trivial⟩
      · refine oj_alloc Try.zeroValue60 rfl rfl (fun b5 => ?_)
        refine oj_nil ?_
        refine ej_pl (lt_y (y_ld0 (reads_sl) Try.isAgg3 rfl (hxk) rfl) rfl (lt_y (y_ixR (reads_sl) Try.underlying43 Try.sizeOf3 rfl rfl (⟨by omega, by omega⟩)) rfl (lt_y (y_move rfl) rfl (lt_y (y_load1 Try.isAgg43 rfl rfl) rfl (lt_y (y_fa0 fa60_0 rfl) rfl (lt_y (y_load1 Try.isAgg43 rfl rfl) rfl (lt_y (y_fa0 fa60_0 rfl) rfl (lt_nil)))))))) ?_
        refine pl_w1 2 (by kernel_rfl) rfl rfl (pl_fire rfl rfl rfl (by kernel_rfl) ?_)
        refine oj_callO (fun B d => .slice B (res).length d) 3 1 enInt (res) Try.call36 rfl (fun w hp => k_Own (res) Ar cr w hp.rd (by omega)) rfl (fun B9 e9 => ?_)
        refine oj_nil ?_
        refine ej_pl (lt_y (y_ld0 (reads_sl) Try.isAgg3 rfl (hxk) rfl) rfl (lt_y (y_ixR (reads_sl) Try.underlying43 Try.sizeOf3 rfl rfl (⟨by omega, by omega⟩)) rfl (lt_y (y_move rfl) rfl (lt_y (y_load1 Try.isAgg43 rfl rfl) rfl (lt_y (y_fa0 fa60_0 rfl) rfl (lt_w (by kernel_rfl) (lt_y (y_fa0 fa60_0 rfl) rfl (lt_nil)))))))) ?_
        refine pl_w1 9 (by kernel_rfl) rfl rfl (pl_fire rfl rfl rfl (by kernel_rfl) ?_)
        refine oj_append  el43 (fun _ => rfl) enInt_one rfl rfl rfl (reads_lit [res.getD k 0] (fun _ => rfl) rfl) (by unfold maxLen; simp only [List.length_append, List.length_cons, List.length_nil]; omega) (by simp only [List.length_append, List.length_cons, List.length_nil]; omega) rfl (fun A16 c16 => ?_)
        refine oj_nil ?_
        refine ej_pl (lt_y (y_ld0 (reads_sl) Try.isAgg3 rfl (hxk) rfl) rfl (lt_y (y_ixR (reads_sl) Try.underlying43 Try.sizeOf3 rfl rfl (⟨by omega, by omega⟩)) rfl (lt_y (y_move rfl) rfl (lt_y (y_load1 Try.isAgg43 rfl rfl) rfl (lt_y (y_fa0 fa60_0 rfl) rfl (lt_y (y_load1 Try.isAgg43 rfl rfl) rfl (lt_y (y_fa0 fa60_0 rfl) rfl (lt_nil)))))))) ?_
        refine pl_y 10 rfl (y_build (cs := [.slice A16 (res ++ [res.getD k 0]).length c16, .slice none 0 0]) st60 rfl (by kernel_rfl)) rfl rfl rfl rfl (by kernel_rfl) ?_
        refine pl_w1 12 (by kernel_rfl) rfl rfl (pl_fire rfl rfl rfl (by kernel_rfl) ?_)
        refine oj_store rfl rfl rfl rfl Try.sizeOf60 rfl ?_
        refine oj_nil ?_
        refine ej_pl (lt_w (by kernel_rfl) (lt_w (by kernel_rfl) (lt_w (by kernel_rfl) (lt_w (by kernel_rfl) (lt_w (by kernel_rfl) (lt_w (by kernel_rfl) (lt_w (by kernel_rfl) (lt_w (by kernel_rfl) (lt_nil))))))))) ?_
        refine pl_end (by kernel_rfl) ?_
        refine ej_takes [ow 3 1 enInt A16 c16 (res ++ [res.getD k 0]), ownB b5 (cellsB 60 [.slice A16 (res ++ [res.getD k 0]).length c16, .slice none 0 0]), ownB b4 (cellsB 60 [.slice none 0 0, .slice none 0 0]), ownB b2 (cellsB 60 [.slice Ar res.length cr, .slice Av vs.length cv])] ?_
        exact ej_ct (b5, A16, c16) trivial ⟨rfl, rfl, rfl, rfl, trivial⟩
    · refine oj_alloc Try.zeroValue60 rfl rfl (fun b5 => ?_)
      refine oj_nil ?_
      refine ej_pl (lt_y (y_ld0 (reads_sl) Try.isAgg3 rfl (hxk) rfl) rfl (lt_y (y_ixR (reads_sl) Try.underlying43 Try.sizeOf3 rfl rfl (⟨by omega, by omega⟩)) rfl (lt_y (y_move rfl) rfl (lt_y (y_load1 Try.isAgg43 rfl rfl) rfl (lt_y (y_fa0 fa60_0 rfl) rfl (lt_y (y_load1 Try.isAgg43 rfl rfl) rfl (lt_y (y_fa0 fa60_0 rfl) rfl (lt_nil)))))))) ?_
      refine pl_w2 2 8 (by kernel_rfl) rfl rfl (pl_fire rfl rfl rfl (by kernel_rfl) ?_) (pl_fire rfl rfl rfl (by kernel_rfl) ?_)
      · refine oj_callO (fun B d => .slice B (res).length d) 3 1 enInt (res) Try.call36 rfl (fun w hp => k_Own (res) Ar cr w hp.rd (by omega)) rfl (fun B9 e9 => ?_)
        refine oj_nil ?_
        refine ej_pl (lt_y (y_ld0 (reads_sl) Try.isAgg3 rfl (hxk) rfl) rfl (lt_y (y_ixR (reads_sl) Try.underlying43 Try.sizeOf3 rfl rfl (⟨by omega, by omega⟩)) rfl (lt_y (y_move rfl) rfl (lt_y (y_load1 Try.isAgg43 rfl rfl) rfl (lt_y (y_fa0 fa60_0 rfl) rfl (lt_w (by kernel_rfl) (lt_y (y_fa0 fa60_0 rfl) rfl (lt_nil)))))))) ?_
        refine pl_w1 8 (by kernel_rfl) rfl rfl (pl_fire rfl rfl rfl (by kernel_rfl) ?_)
        refine oj_buildSlice (cs := [.int .i64 (res.getD k 0)]) [.int .i64 0] Try.underlying43 Try.sizeOf3 Try.zeroValue3 rfl rfl (by kernel_rfl) (by kernel_rfl) rfl (fun b15 => ?_)
        refine oj_nil ?_
        refine ej_pl (lt_w (by kernel_rfl) (lt_y (y_ixR (reads_sl) Try.underlying43 Try.sizeOf3 rfl rfl (⟨by omega, by omega⟩)) rfl (lt_y (y_move rfl) rfl (lt_y (y_load1 Try.isAgg43 rfl rfl) rfl (lt_y (y_fa0 fa60_0 rfl) rfl (lt_y (y_load1 Try.isAgg43 rfl rfl) rfl (lt_y (y_fa0 fa60_0 rfl) rfl (lt_nil)))))))) ?_
        refine pl_w1 9 (by kernel_rfl) rfl rfl (pl_fire rfl rfl rfl (by kernel_rfl) ?_)
        refine oj_append  el43 (fun _ => rfl) enInt_one rfl rfl rfl (reads_lit [res.getD k 0] (fun _ => rfl) rfl) (by unfold maxLen; simp only [List.length_append, List.length_cons, List.length_nil]; omega) (by simp only [List.length_append, List.length_cons, List.length_nil]; omega) rfl (fun A16 c16 => ?_)
        refine oj_nil ?_
        refine ej_pl (lt_y (y_ld0 (reads_sl) Try.isAgg3 rfl (hxk) rfl) rfl (lt_y (y_ixR (reads_sl) Try.underlying43 Try.sizeOf3 rfl rfl (⟨by omega, by omega⟩)) rfl (lt_y (y_move rfl) rfl (lt_y (y_load1 Try.isAgg43 rfl rfl) rfl (lt_y (y_fa0 fa60_0 rfl) rfl (lt_y (y_load1 Try.isAgg43 rfl rfl) rfl (lt_y (y_fa0 fa60_0 rfl) rfl (lt_nil)))))))) ?_
        refine pl_y 10 rfl (y_build (cs := [.slice A16 (res ++ [res.getD k 0]).length c16, .slice none 0 0]) st60 rfl (by kernel_rfl)) rfl rfl rfl rfl (by kernel_rfl) ?_
        refine pl_w1 12 (by kernel_rfl) rfl rfl (pl_fire rfl rfl rfl (by kernel_rfl) ?_)
        refine oj_store rfl rfl rfl rfl Try.sizeOf60 rfl ?_
        refine oj_nil ?_
        refine ej_pl (lt_w (by kernel_rfl) (lt_w (by kernel_rfl) (lt_w (by kernel_rfl) (lt_w (by kernel_rfl) (lt_w (by kernel_rfl) (lt_w (by kernel_rfl) (lt_w (by kernel_rfl) (lt_w (by kernel_rfl) (lt_nil))))))))) ?_
        refine pl_end (by kernel_rfl) ?_
        refine ej_takes [ow 3 1 enInt A16 c16 (res ++ [res.getD k 0]), ownB b5 (cellsB 60 [.slice A16 (res ++ [res.getD k 0]).length c16, .slice none 0 0]), ownB b4 (cellsB 60 [.slice none 0 0, .slice none 0 0]), ownB b2 (cellsB 60 [.slice Ar res.length cr, .slice Av vs.length cv])] ?_
        exact ej_ct (b5, A16, c16) trivial ⟨rfl, rfl, rfl, rfl, trivial⟩
      · refine oj_buildSlice (cs := [.int .i64 (res.getD k 0)]) [.int .i64 0] Try.underlying43 Try.sizeOf3 Try.zeroValue3 rfl rfl (by kernel_rfl) (by kernel_rfl) rfl (fun b15 => ?_)
        refine oj_nil ?_
        refine ej_pl (lt_w (by kernel_rfl) (lt_y (y_ixR (reads_sl) Try.underlying43 Try.sizeOf3 rfl rfl (⟨by omega, by omega⟩)) rfl (lt_y (y_move rfl) rfl (lt_y (y_load1 Try.isAgg43 rfl rfl) rfl (lt_y (y_fa0 fa60_0 rfl) rfl (lt_y (y_load1 Try.isAgg43 rfl rfl) rfl (lt_y (y_fa0 fa60_0 rfl) rfl (lt_nil)))))))) ?_
        refine pl_w1 2 (by kernel_rfl) rfl rfl (pl_fire rfl rfl rfl (by kernel_rfl) ?_)
        refine oj_callO (fun B d => .slice B (res).length d) 3 1 enInt (res) Try.call36 rfl (fun w hp => k_Own (res) Ar cr w hp.rd (by omega)) rfl (fun B9 e9 => ?_)
        refine oj_nil ?_
        refine ej_pl (lt_y (y_ld0 (reads_sl) Try.isAgg3 rfl (hxk) rfl) rfl (lt_y (y_ixR (reads_sl) Try.underlying43 Try.sizeOf3 rfl rfl (⟨by omega, by omega⟩)) rfl (lt_y (y_move rfl) rfl (lt_y (y_load1 Try.isAgg43 rfl rfl) rfl (lt_y (y_fa0 fa60_0 rfl) rfl (lt_w (by kernel_rfl) (lt_y (y_fa0 fa60_0 rfl) rfl (lt_nil)))))))) ?_
        refine pl_w1 9 (by kernel_rfl) rfl rfl (pl_fire rfl rfl rfl (by kernel_rfl) ?_)
        refine oj_append  el43 (fun _ => rfl) enInt_one rfl rfl rfl (reads_lit [res.getD k 0] (fun _ => rfl) rfl) (by unfold maxLen; simp only [List.length_append, List.length_cons, List.length_nil]; omega) (by simp only [List.length_append, List.length_cons, List.length_nil]; omega) rfl (fun A16 c16 => ?_)
        refine oj_nil ?_
        refine ej_pl (lt_y (y_ld0 (reads_sl) Try.isAgg3 rfl (hxk) rfl) rfl (lt_y (y_ixR (reads_sl) Try.underlying43 Try.sizeOf3 rfl rfl (⟨by omega, by omega⟩)) rfl (lt_y (y_move rfl) rfl (lt_y (y_load1 Try.isAgg43 rfl rfl) rfl (lt_y (y_fa0 fa60_0 rfl) rfl (lt_y (y_load1 Try.isAgg43 rfl rfl) rfl (lt_y (y_fa0 fa60_0 rfl) rfl (lt_nil)))))))) ?_
        refine pl_y 10 rfl (y_build (cs := [.slice A16 (res ++ [res.getD k 0]).length c16, .slice none 0 0]) st60 rfl (by kernel_rfl)) rfl rfl rfl rfl (by kernel_rfl) ?_
        refine pl_w1 12 (by kernel_rfl) rfl rfl (pl_fire rfl rfl rfl (by kernel_rfl) ?_)
        refine oj_store rfl rfl rfl rfl Try.sizeOf60 rfl ?_
        refine oj_nil ?_
        refine ej_pl (lt_w (by kernel_rfl) (lt_w (by kernel_rfl) (lt_w (by kernel_rfl) (lt_w (by kernel_rfl) (lt_w (by kernel_rfl) (lt_w (by kernel_rfl) (lt_w (by kernel_rfl) (lt_w (by kernel_rfl) (lt_nil))))))))) ?_
        refine pl_end (by kernel_rfl) ?_
        refine ej_takes [ow 3 1 enInt A16 c16 (res ++ [res.getD k 0]), ownB b5 (cellsB 60 [.slice A16 (res ++ [res.getD k 0]).length c16, .slice none 0 0]), ownB b4 (cellsB 60 [.slice none 0 0, .slice none 0 0]), ownB b2 (cellsB 60 [.slice Ar res.length cr, .slice Av vs.length cv])] ?_
        exact ej_ct (b5, A16, c16) trivial ⟨rfl, rfl, rfl, rfl, trivial⟩
  · rintro ⟨b5, A16, c16⟩ -
    dsimp only [List.cons_append, List.nil_append]
    refine cj_seq (cj_seq ?_)
    refine cj_regionG (gj_step (y_assign rfl) rfl rfl rfl (gj_nil ?_))
    refine ej_th (cj_block ?_)
    refine cj_ownNil 43 1 encLs ?_
    refine cj_addS (rwF (fun _ => False) []) (fun w hp => ⟨fun z hz => (by cases hz), fun i hi => hi.elim⟩) ?_
    refine cj_eqO [ow 43 1 encLs none 0 ([] : List ListV), ow 3 1 enInt A16 c16 (res ++ [res.getD k 0]), ownB b5 (cellsB 60 [.slice A16 (res ++ [res.getD k 0]).length c16, .slice none ([] : List ListV).length 0]), ownB b4 (cellsB 60 [.slice none 0 0, .slice none 0 0]), ownB b2 (cellsB 60 [.slice Ar res.length cr, .slice Av vs.length cv])] rfl ?_
    refine cj_lpi (X := Nat × (Option Addr × Nat × List ListV) × (Nat → Prop)) [(5, _), (1, _), (2, _), (4, _)] (fun ⟨i, ⟨A6, c6, rows⟩, fp⟩ => i ≤ vs.length ∧ rows.length = i ∧ rowsV rows = withV ((rowsV vs).take i) k ∧ ∀ b, fp b → w.heap.size ≤ b) (fun ⟨i, ⟨A6, c6, rows⟩, fp⟩ => [(6, .int .i64 i)]) (fun ⟨i, ⟨A6, c6, rows⟩, fp⟩ => [ow 43 1 encLs A6 c6 rows, ow 3 1 enInt A16 c16 (res ++ [res.getD k 0]), ownB b5 (cellsB 60 [.slice A16 (res ++ [res.getD k 0]).length c16, .slice A6 rows.length c6]), ownB b4 (cellsB 60 [.slice none 0 0, .slice none 0 0]), ownB b2 (cellsB 60 [.slice Ar res.length cr, .slice Av vs.length cv])]) (fun ⟨i, ⟨A6, c6, rows⟩, fp⟩ => [rwF fp rows, sl (fun b => b < w.heap.size) 1 enInt Ar res, sl (fun b => b < w.heap.size) 1 encLs Av vs]) (fun ⟨i, ⟨A6, c6, rows⟩, fp⟩ => vs.length - i) (0, (none, 0, []), fun _ => False) (⟨Nat.zero_le _, rfl, rfl, fun b hb => hb.elim⟩) ⟨rfl, rfl, rfl, rfl, rfl, trivial⟩ ?_
    rintro ⟨i, ⟨A6, c6, rows⟩, fp⟩ ⟨hi, hrl0, hrw, hfp⟩
    dsimp only [List.cons_append, List.nil_append]
    refine cj_seq (cj_seq ?_)
    refine cj_regionG (gj_step (y_move rfl) rfl rfl rfl (gj_step (y_fa fa60_1 rfl) rfl rfl rfl (gj_step (y_load1 Try.isAgg58 rfl rfl) rfl rfl rfl (gj_step (y_lenA Try.underlying58 rfl) rfl rfl rfl (gj_step (y_lss rfl rfl) rfl rfl rfl (gj_nil ?_))))))
    refine ej_th ?_
    refine cj_cond rfl (fun h22 => ?_) (fun h22 => ?_)
    · have h22b := h22
      try simp only [sxb] at h22
      obtain ⟨r, hr⟩ : ∃ r, vs[i]? = some r := ⟨_, List.getElem?_eq_getElem (by omega)⟩
      have hgr := hgv r (List.mem_of_getElem? hr)
      have hrl := hgr.len
      refine cj_rd hgr (fun _ h => h) ?_
      have hrm : r.l.length = res.length := hco.len _ (List.mem_of_getElem? (rowsV_get hr))
      have hxr : r.l[((k : Nat) : Int).toNat]? = some (r.l.getD k 0) := by rw [show ((k : Nat) : Int).toNat = k by omega, List.getD_eq_getElem?_getD, List.getElem?_eq_getElem (by omega)]; rfl
      refine cj_skip (ej_th (cj_seq (cj_block ?_)))
      refine cj_plan 22 (by kernel_rfl) (by kernel_rfl) ?_
      refine pl_y 0 rfl (y_fa fa60_1 rfl) rfl rfl rfl rfl (by kernel_rfl) ?_
      refine pl_y 1 rfl (y_load1 Try.isAgg58 rfl rfl) rfl rfl rfl rfl (by kernel_rfl) ?_
      refine pl_y 2 rfl (y_fa fa60_1 rfl) rfl rfl rfl rfl (by kernel_rfl) ?_
      refine pl_y 3 rfl (y_load1 Try.isAgg58 rfl rfl) rfl rfl rfl rfl (by kernel_rfl) ?_
      refine pl_y 4 rfl (y_move rfl) rfl rfl rfl rfl (by kernel_rfl) ?_
      refine pl_y 5 rfl (y_ixR (reads_sl) Try.underlying58 Try.sizeOf43 rfl rfl (⟨by omega, by omega⟩)) rfl rfl rfl rfl (by kernel_rfl) ?_
      refine pl_y 6 rfl (y_ld0 (reads_sl) Try.isAgg43 rfl (hr) rfl) rfl rfl rfl rfl (by kernel_rfl) ?_
      refine pl_y 8 rfl (y_fa fa60_1 rfl) rfl rfl rfl rfl (by kernel_rfl) ?_
      refine pl_y 9 rfl (y_load1 Try.isAgg58 rfl rfl) rfl rfl rfl rfl (by kernel_rfl) ?_
      refine pl_y 10 rfl (y_move rfl) rfl rfl rfl rfl (by kernel_rfl) ?_
      refine pl_y 11 rfl (y_ixR (reads_sl) Try.underlying58 Try.sizeOf43 rfl rfl (⟨by omega, by omega⟩)) rfl rfl rfl rfl (by kernel_rfl) ?_
      refine pl_y 12 rfl (y_ld0 (reads_sl) Try.isAgg43 rfl (hr) rfl) rfl rfl rfl rfl (by kernel_rfl) ?_
      refine pl_y 13 rfl (y_move rfl) rfl rfl rfl rfl (by kernel_rfl) ?_
      refine pl_y 14 rfl (y_ixR (reads_sl) Try.underlying43 Try.sizeOf3 rfl rfl (⟨by omega, by omega⟩)) rfl rfl rfl rfl (by kernel_rfl) ?_
      refine pl_y 15 rfl (y_ld0 (reads_sl) Try.isAgg3 rfl (hxr) rfl) rfl rfl rfl rfl (by kernel_rfl) ?_
      refine pl_w2 7 16 (by kernel_rfl) rfl rfl (pl_fire rfl rfl rfl (by kernel_rfl) ?_) (pl_fire rfl rfl rfl (by kernel_rfl) ?_)
      · refine oj_callO (fun B d => .slice B (r.l).length d) 3 1 enInt (r.l) Try.call36 rfl (fun w hp => k_Own (r.l) r.A r.c w hp.rd (by omega)) rfl (fun B32 e32 => ?_)
        refine oj_nil ?_
        refine ej_pl (lt_y (y_ld0 (reads_sl) Try.isAgg3 rfl (hxr) rfl) rfl (lt_y (y_ixR (reads_sl) Try.underlying43 Try.sizeOf3 rfl rfl (⟨by omega, by omega⟩)) rfl (lt_y (y_move rfl) rfl (lt_y (y_ld0 (reads_sl) Try.isAgg43 rfl (hr) rfl) rfl (lt_y (y_ixR (reads_sl) Try.underlying58 Try.sizeOf43 rfl rfl (⟨by omega, by omega⟩)) rfl (lt_y (y_move rfl) rfl (lt_y (y_load1 Try.isAgg58 rfl rfl) rfl (lt_y (y_fa fa60_1 rfl) rfl (lt_w (by kernel_rfl) (lt_y (y_ixR (reads_sl) Try.underlying58 Try.sizeOf43 rfl rfl (⟨by omega, by omega⟩)) rfl (lt_y (y_move rfl) rfl (lt_y (y_load1 Try.isAgg58 rfl rfl) rfl (lt_y (y_fa fa60_1 rfl) rfl (lt_y (y_load1 Try.isAgg58 rfl rfl) rfl (lt_y (y_fa fa60_1 rfl) rfl (lt_nil)))))))))))))))) ?_
        refine pl_w1 16 (by kernel_rfl) rfl rfl (pl_fire rfl rfl rfl (by kernel_rfl) ?_)
        refine oj_buildSlice (cs := [.int .i64 (r.l.getD k 0)]) [.int .i64 0] Try.underlying43 Try.sizeOf3 Try.zeroValue3 rfl rfl (by kernel_rfl) (by kernel_rfl) rfl (fun b41 => ?_)
        refine oj_nil ?_
        refine ej_pl (lt_w (by kernel_rfl) (lt_y (y_ixR (reads_sl) Try.underlying43 Try.sizeOf3 rfl rfl (⟨by omega, by omega⟩)) rfl (lt_y (y_move rfl) rfl (lt_y (y_ld0 (reads_sl) Try.isAgg43 rfl (hr) rfl) rfl (lt_y (y_ixR (reads_sl) Try.underlying58 Try.sizeOf43 rfl rfl (⟨by omega, by omega⟩)) rfl (lt_y (y_move rfl) rfl (lt_y (y_load1 Try.isAgg58 rfl rfl) rfl (lt_y (y_fa fa60_1 rfl) rfl (lt_y (y_ld0 (reads_sl) Try.isAgg43 rfl (hr) rfl) rfl (lt_y (y_ixR (reads_sl) Try.underlying58 Try.sizeOf43 rfl rfl (⟨by omega, by omega⟩)) rfl (lt_y (y_move rfl) rfl (lt_y (y_load1 Try.isAgg58 rfl rfl) rfl (lt_y (y_fa fa60_1 rfl) rfl (lt_y (y_load1 Try.isAgg58 rfl rfl) rfl (lt_y (y_fa fa60_1 rfl) rfl (lt_nil)))))))))))))))) ?_
        refine pl_w1 17 (by kernel_rfl) rfl rfl (pl_fire rfl rfl rfl (by kernel_rfl) ?_)
        refine oj_append  el43 (fun _ => rfl) enInt_one rfl rfl rfl (reads_lit [r.l.getD k 0] (fun _ => rfl) rfl) (by unfold maxLen; simp only [List.length_append, List.length_cons, List.length_nil]; omega) (by simp only [List.length_append, List.length_cons, List.length_nil]; omega) rfl (fun A42 c42 => ?_)
        refine oj_nil ?_
        refine ej_pl (lt_y (y_ld0 (reads_sl) Try.isAgg3 rfl (hxr) rfl) rfl (lt_y (y_ixR (reads_sl) Try.underlying43 Try.sizeOf3 rfl rfl (⟨by omega, by omega⟩)) rfl (lt_y (y_move rfl) rfl (lt_y (y_ld0 (reads_sl) Try.isAgg43 rfl (hr) rfl) rfl (lt_y (y_ixR (reads_sl) Try.underlying58 Try.sizeOf43 rfl rfl (⟨by omega, by omega⟩)) rfl (lt_y (y_move rfl) rfl (lt_y (y_load1 Try.isAgg58 rfl rfl) rfl (lt_y (y_fa fa60_1 rfl) rfl (lt_y (y_ld0 (reads_sl) Try.isAgg43 rfl (hr) rfl) rfl (lt_y (y_ixR (reads_sl) Try.underlying58 Try.sizeOf43 rfl rfl (⟨by omega, by omega⟩)) rfl (lt_y (y_move rfl) rfl (lt_y (y_load1 Try.isAgg58 rfl rfl) rfl (lt_y (y_fa fa60_1 rfl) rfl (lt_y (y_load1 Try.isAgg58 rfl rfl) rfl (lt_y (y_fa fa60_1 rfl) rfl (lt_nil)))))))))))))))) ?_
        refine pl_w1 18 (by kernel_rfl) rfl rfl (pl_fire rfl rfl rfl (by kernel_rfl) ?_)
        refine oj_buildSlice (cs := [.slice A42 (r.l ++ [r.l.getD k 0]).length c42]) [.slice none 0 0] Try.underlying58 Try.sizeOf43 Try.zeroValue43 rfl rfl (by kernel_rfl) (by kernel_rfl) rfl (fun b43 => ?_)
        refine oj_nil ?_
        refine ej_pl (lt_y (y_ld0 (reads_sl) Try.isAgg3 rfl (hxr) rfl) rfl (lt_y (y_ixR (reads_sl) Try.underlying43 Try.sizeOf3 rfl rfl (⟨by omega, by omega⟩)) rfl (lt_y (y_move rfl) rfl (lt_y (y_ld0 (reads_sl) Try.isAgg43 rfl (hr) rfl) rfl (lt_y (y_ixR (reads_sl) Try.underlying58 Try.sizeOf43 rfl rfl (⟨by omega, by omega⟩)) rfl (lt_y (y_move rfl) rfl (lt_y (y_load1 Try.isAgg58 rfl rfl) rfl (lt_y (y_fa fa60_1 rfl) rfl (lt_y (y_ld0 (reads_sl) Try.isAgg43 rfl (hr) rfl) rfl (lt_y (y_ixR (reads_sl) Try.underlying58 Try.sizeOf43 rfl rfl (⟨by omega, by omega⟩)) rfl (lt_y (y_move rfl) rfl (lt_y (y_load1 Try.isAgg58 rfl rfl) rfl (lt_y (y_fa fa60_1 rfl) rfl (lt_y (y_load1 Try.isAgg58 rfl rfl) rfl (lt_y (y_fa fa60_1 rfl) rfl (lt_nil)))))))))))))))) ?_
        refine pl_w1 19 (by kernel_rfl) rfl rfl (pl_fire rfl rfl rfl (by kernel_rfl) ?_)
        refine oj_append  el58 (fun _ => rfl) encLs_one rfl rfl rfl (reads_lit [(⟨A42, c42, (r.l ++ [r.l.getD k 0])⟩ : ListV)] (fun _ => rfl) rfl) (by unfold maxLen; simp only [List.length_append, List.length_cons, List.length_nil]; omega) (by simp only [List.length_append, List.length_cons, List.length_nil]; omega) rfl (fun A44 c44 => ?_)
        refine oj_nil ?_
        refine ej_pl (lt_y (y_ld0 (reads_sl) Try.isAgg3 rfl (hxr) rfl) rfl (lt_y (y_ixR (reads_sl) Try.underlying43 Try.sizeOf3 rfl rfl (⟨by omega, by omega⟩)) rfl (lt_y (y_move rfl) rfl (lt_y (y_ld0 (reads_sl) Try.isAgg43 rfl (hr) rfl) rfl (lt_y (y_ixR (reads_sl) Try.underlying58 Try.sizeOf43 rfl rfl (⟨by omega, by omega⟩)) rfl (lt_y (y_move rfl) rfl (lt_y (y_load1 Try.isAgg58 rfl rfl) rfl (lt_y (y_fa fa60_1 rfl) rfl (lt_y (y_ld0 (reads_sl) Try.isAgg43 rfl (hr) rfl) rfl (lt_y (y_ixR (reads_sl) Try.underlying58 Try.sizeOf43 rfl rfl (⟨by omega, by omega⟩)) rfl (lt_y (y_move rfl) rfl (lt_y (y_load1 Try.isAgg58 rfl rfl) rfl (lt_y (y_fa fa60_1 rfl) rfl (lt_w (by kernel_rfl) (lt_y (y_fa fa60_1 rfl) rfl (lt_nil)))))))))))))))) ?_
        refine pl_y 20 rfl (y_fa fa60_1 rfl) rfl rfl rfl rfl (by kernel_rfl) ?_
        refine pl_w1 21 (by kernel_rfl) rfl rfl (pl_fire rfl rfl rfl (by kernel_rfl) ?_)
        refine oj_store rfl rfl rfl rfl Try.sizeOf58 rfl ?_
        refine oj_nil ?_
        refine ej_pl (lt_w (by kernel_rfl) (lt_w (by kernel_rfl) (lt_w (by kernel_rfl) (lt_w (by kernel_rfl) (lt_w (by kernel_rfl) (lt_w (by kernel_rfl) (lt_w (by kernel_rfl) (lt_w (by kernel_rfl) (lt_w (by kernel_rfl) (lt_w (by kernel_rfl) (lt_w (by kernel_rfl) (lt_w (by kernel_rfl) (lt_w (by kernel_rfl) (lt_w (by kernel_rfl) (lt_w (by kernel_rfl) (lt_w (by kernel_rfl) (lt_nil))))))))))))))))) ?_
        refine pl_end (by kernel_rfl) ?_
        refine ej_blk (ej_th ?_)
        refine cj_regionG (gj_step (y_move rfl) rfl rfl rfl (gj_step (y_add rfl rfl (by omega)) rfl rfl rfl (gj_step (y_assign rfl) rfl rfl rfl (gj_nil ?_))))
        refine ej_frz (ow 3 1 enInt A42 c42 (r.l ++ [r.l.getD k 0])) (rwF (fun b => (fp b ∨ (ow 3 1 enInt A42 c42 (r.l ++ [r.l.getD k 0])).fp b) ∧ w.heap.size ≤ b) (rows ++ [(⟨A42, c42, (r.l ++ [r.l.getD k 0])⟩ : ListV)])) (O' := [ow 43 1 encLs A44 c44 (rows ++ [(⟨A42, c42, (r.l ++ [r.l.getD k 0])⟩ : ListV)]), ow 3 1 enInt A16 c16 (res ++ [res.getD k 0]), ownB b5 (cellsB 60 [.slice A16 (res ++ [res.getD k 0]).length c16, .slice A44 (rows ++ [(⟨A42, c42, (r.l ++ [r.l.getD k 0])⟩ : ListV)]).length c44]), ownB b4 (cellsB 60 [.slice none 0 0, .slice none 0 0]), ownB b2 (cellsB 60 [.slice Ar res.length cr, .slice Av vs.length cv])]) (fun w1 hp => rows_new hp hfp (by unfold maxLen; simp only [List.length_append, List.length_cons, List.length_nil]; omega) (.tail _ (.head _)) (by simp)) (fun b hb => ?_) ?_
        · rcases hb.1 with hb | hb
          · exact .inr ⟨rwF fp rows, .tail _ (.head _), hb⟩
          · exact .inl hb
        exact ej_nx (i + 1, (A44, c44, rows ++ [(⟨A42, c42, (r.l ++ [r.l.getD k 0])⟩ : ListV)]), (fun b => (fp b ∨ (ow 3 1 enInt A42 c42 (r.l ++ [r.l.getD k 0])).fp b) ∧ w.heap.size ≤ b)) (by simp only; omega) ⟨by first | omega | (simp only; omega), by simp only [List.length_append, List.length_cons, List.length_nil]; omega, withV_snoc hr rows A42 c42 hrw, fun b hb => hb.2⟩ ⟨rfl, rfl, rfl, rfl, rfl, trivial⟩
      · refine oj_buildSlice (cs := [.int .i64 (r.l.getD k 0)]) [.int .i64 0] Try.underlying43 Try.sizeOf3 Try.zeroValue3 rfl rfl (by kernel_rfl) (by kernel_rfl) rfl (fun b41 => ?_)
        refine oj_nil ?_
        refine ej_pl (lt_w (by kernel_rfl) (lt_y (y_ixR (reads_sl) Try.underlying43 Try.sizeOf3 rfl rfl (⟨by omega, by omega⟩)) rfl (lt_y (y_move rfl) rfl (lt_y (y_ld0 (reads_sl) Try.isAgg43 rfl (hr) rfl) rfl (lt_y (y_ixR (reads_sl) Try.underlying58 Try.sizeOf43 rfl rfl (⟨by omega, by omega⟩)) rfl (lt_y (y_move rfl) rfl (lt_y (y_load1 Try.isAgg58 rfl rfl) rfl (lt_y (y_fa fa60_1 rfl) rfl (lt_y (y_ld0 (reads_sl) Try.isAgg43 rfl (hr) rfl) rfl (lt_y (y_ixR (reads_sl) Try.underlying58 Try.sizeOf43 rfl rfl (⟨by omega, by omega⟩)) rfl (lt_y (y_move rfl) rfl (lt_y (y_load1 Try.isAgg58 rfl rfl) rfl (lt_y (y_fa fa60_1 rfl) rfl (lt_y (y_load1 Try.isAgg58 rfl rfl) rfl (lt_y (y_fa fa60_1 rfl) rfl (lt_nil)))))))))))))))) ?_
        refine pl_w1 7 (by kernel_rfl) rfl rfl (pl_fire rfl rfl rfl (by kernel_rfl) ?_)
        refine oj_callO (fun B d => .slice B (r.l).length d) 3 1 enInt (r.l) Try.call36 rfl (fun w hp => k_Own (r.l) r.A r.c w hp.rd (by omega)) rfl (fun B32 e32 => ?_)
        refine oj_nil ?_
        refine ej_pl (lt_y (y_ld0 (reads_sl) Try.isAgg3 rfl (hxr) rfl) rfl (lt_y (y_ixR (reads_sl) Try.underlying43 Try.sizeOf3 rfl rfl (⟨by omega, by omega⟩)) rfl (lt_y (y_move rfl) rfl (lt_y (y_ld0 (reads_sl) Try.isAgg43 rfl (hr) rfl) rfl (lt_y (y_ixR (reads_sl) Try.underlying58 Try.sizeOf43 rfl rfl (⟨by omega, by omega⟩)) rfl (lt_y (y_move rfl) rfl (lt_y (y_load1 Try.isAgg58 rfl rfl) rfl (lt_y (y_fa fa60_1 rfl) rfl (lt_w (by kernel_rfl) (lt_y (y_ixR (reads_sl) Try.underlying58 Try.sizeOf43 rfl rfl (⟨by omega, by omega⟩)) rfl (lt_y (y_move rfl) rfl (lt_y (y_load1 Try.isAgg58 rfl rfl) rfl (lt_y (y_fa fa60_1 rfl) rfl (lt_y (y_load1 Try.isAgg58 rfl rfl) rfl (lt_y (y_fa fa60_1 rfl) rfl (lt_nil)))))))))))))))) ?_
        refine pl_w1 17 (by kernel_rfl) rfl rfl (pl_fire rfl rfl rfl (by kernel_rfl) ?_)
        refine oj_append  el43 (fun _ => rfl) enInt_one rfl rfl rfl (reads_lit [r.l.getD k 0] (fun _ => rfl) rfl) (by unfold maxLen; simp only [List.length_append, List.length_cons, List.length_nil]; omega) (by simp only [List.length_append, List.length_cons, List.length_nil]; omega) rfl (fun A42 c42 => ?_)
        refine oj_nil ?_
        refine ej_pl (lt_y (y_ld0 (reads_sl) Try.isAgg3 rfl (hxr) rfl) rfl (lt_y (y_ixR (reads_sl) Try.underlying43 Try.sizeOf3 rfl rfl (⟨by omega, by omega⟩)) rfl (lt_y (y_move rfl) rfl (lt_y (y_ld0 (reads_sl) Try.isAgg43 rfl (hr) rfl) rfl (lt_y (y_ixR (reads_sl) Try.underlying58 Try.sizeOf43 rfl rfl (⟨by omega, by omega⟩)) rfl (lt_y (y_move rfl) rfl (lt_y (y_load1 Try.isAgg58 rfl rfl) rfl (lt_y (y_fa fa60_1 rfl) rfl (lt_y (y_ld0 (reads_sl) Try.isAgg43 rfl (hr) rfl) rfl (lt_y (y_ixR (reads_sl) Try.underlying58 Try.sizeOf43 rfl rfl (⟨by omega, by omega⟩)) rfl (lt_y (y_move rfl) rfl (lt_y (y_load1 Try.isAgg58 rfl rfl) rfl (lt_y (y_fa fa60_1 rfl) rfl (lt_y (y_load1 Try.isAgg58 rfl rfl) rfl (lt_y (y_fa fa60_1 rfl) rfl (lt_nil)))))))))))))))) ?_
        refine pl_w1 18 (by kernel_rfl) rfl rfl (pl_fire rfl rfl rfl (by kernel_rfl) ?_)
        refine oj_buildSlice (cs := [.slice A42 (r.l ++ [r.l.getD k 0]).length c42]) [.slice none 0 0] Try.underlying58 Try.sizeOf43 Try.zeroValue43 rfl rfl (by kernel_rfl) (by kernel_rfl) rfl (fun b43 => ?_)
        refine oj_nil ?_
        refine ej_pl (lt_y (y_ld0 (reads_sl) Try.isAgg3 rfl (hxr) rfl) rfl (lt_y (y_ixR (reads_sl) Try.underlying43 Try.sizeOf3 rfl rfl (⟨by omega, by omega⟩)) rfl (lt_y (y_move rfl) rfl (lt_y (y_ld0 (reads_sl) Try.isAgg43 rfl (hr) rfl) rfl (lt_y (y_ixR (reads_sl) Try.underlying58 Try.sizeOf43 rfl rfl (⟨by omega, by omega⟩)) rfl (lt_y (y_move rfl) rfl (lt_y (y_load1 Try.isAgg58 rfl rfl) rfl (lt_y (y_fa fa60_1 rfl) rfl (lt_y (y_ld0 (reads_sl) Try.isAgg43 rfl (hr) rfl) rfl (lt_y (y_ixR (reads_sl) Try.underlying58 Try.sizeOf43 rfl rfl (⟨by omega, by omega⟩)) rfl (lt_y (y_move rfl) rfl (lt_y (y_load1 Try.isAgg58 rfl rfl) rfl (lt_y (y_fa fa60_1 rfl) rfl (lt_y (y_load1 Try.isAgg58 rfl rfl) rfl (lt_y (y_fa fa60_1 rfl) rfl (lt_nil)))))))))))))))) ?_
        refine pl_w1 19 (by kernel_rfl) rfl rfl (pl_fire rfl rfl rfl (by kernel_rfl) ?_)
        refine oj_append  el58 (fun _ => rfl) encLs_one rfl rfl rfl (reads_lit [(⟨A42, c42, (r.l ++ [r.l.getD k 0])⟩ : ListV)] (fun _ => rfl) rfl) (by unfold maxLen; simp only [List.length_append, List.length_cons, List.length_nil]; omega) (by simp only [List.length_append, List.length_cons, List.length_nil]; omega) rfl (fun A44 c44 => ?_)
        refine oj_nil ?_
        refine ej_pl (lt_y (y_ld0 (reads_sl) Try.isAgg3 rfl (hxr) rfl) rfl (lt_y (y_ixR (reads_sl) Try.underlying43 Try.sizeOf3 rfl rfl (⟨by omega, by omega⟩)) rfl (lt_y (y_move rfl) rfl (lt_y (y_ld0 (reads_sl) Try.isAgg43 rfl (hr) rfl) rfl (lt_y (y_ixR (reads_sl) Try.underlying58 Try.sizeOf43 rfl rfl (⟨by omega, by omega⟩)) rfl (lt_y (y_move rfl) rfl (lt_y (y_load1 Try.isAgg58 rfl rfl) rfl (lt_y (y_fa fa60_1 rfl) rfl (lt_y (y_ld0 (reads_sl) Try.isAgg43 rfl (hr) rfl) rfl (lt_y (y_ixR (reads_sl) Try.underlying58 Try.sizeOf43 rfl rfl (⟨by omega, by omega⟩)) rfl (lt_y (y_move rfl) rfl (lt_y (y_load1 Try.isAgg58 rfl rfl) rfl (lt_y (y_fa fa60_1 rfl) rfl (lt_w (by kernel_rfl) (lt_y (y_fa fa60_1 rfl) rfl (lt_nil)))))))))))))))) ?_
        refine pl_y 20 rfl (y_fa fa60_1 rfl) rfl rfl rfl rfl (by kernel_rfl) ?_
        refine pl_w1 21 (by kernel_rfl) rfl rfl (pl_fire rfl rfl rfl (by kernel_rfl) ?_)
        refine oj_store rfl rfl rfl rfl Try.sizeOf58 rfl ?_
        refine oj_nil ?_
        refine ej_pl (lt_w (by kernel_rfl) (lt_w (by kernel_rfl) (lt_w (by kernel_rfl) (lt_w (by kernel_rfl) (lt_w (by kernel_rfl) (lt_w (by kernel_rfl) (lt_w (by kernel_rfl) (lt_w (by kernel_rfl) (lt_w (by kernel_rfl) (lt_w (by kernel_rfl) (lt_w (by kernel_rfl) (lt_w (by kernel_rfl) (lt_w (by kernel_rfl) (lt_w (by kernel_rfl) (lt_w (by kernel_rfl) (lt_w (by kernel_rfl) (lt_nil))))))))))))))))) ?_
        refine pl_end (by kernel_rfl) ?_
        refine ej_blk (ej_th ?_)
        refine cj_regionG (gj_step (y_move rfl) rfl rfl rfl (gj_step (y_add rfl rfl (by omega)) rfl rfl rfl (gj_step (y_assign rfl) rfl rfl rfl (gj_nil ?_))))
        refine ej_frz (ow 3 1 enInt A42 c42 (r.l ++ [r.l.getD k 0])) (rwF (fun b => (fp b ∨ (ow 3 1 enInt A42 c42 (r.l ++ [r.l.getD k 0])).fp b) ∧ w.heap.size ≤ b) (rows ++ [(⟨A42, c42, (r.l ++ [r.l.getD k 0])⟩ : ListV)])) (O' := [ow 43 1 encLs A44 c44 (rows ++ [(⟨A42, c42, (r.l ++ [r.l.getD k 0])⟩ : ListV)]), ow 3 1 enInt A16 c16 (res ++ [res.getD k 0]), ownB b5 (cellsB 60 [.slice A16 (res ++ [res.getD k 0]).length c16, .slice A44 (rows ++ [(⟨A42, c42, (r.l ++ [r.l.getD k 0])⟩ : ListV)]).length c44]), ownB b4 (cellsB 60 [.slice none 0 0, .slice none 0 0]), ownB b2 (cellsB 60 [.slice Ar res.length cr, .slice Av vs.length cv])]) (fun w1 hp => rows_new hp hfp (by unfold maxLen; simp only [List.length_append, List.length_cons, List.length_nil]; omega) (.tail _ (.head _)) (by simp)) (fun b hb => ?_) ?_
        · rcases hb.1 with hb | hb
          · exact .inr ⟨rwF fp rows, .tail _ (.head _), hb⟩
          · exact .inl hb
        exact ej_nx (i + 1, (A44, c44, rows ++ [(⟨A42, c42, (r.l ++ [r.l.getD k 0])⟩ : ListV)]), (fun b => (fp b ∨ (ow 3 1 enInt A42 c42 (r.l ++ [r.l.getD k 0])).fp b) ∧ w.heap.size ≤ b)) (by simp only; omega) ⟨by first | omega | (simp only; omega), by simp only [List.length_append, List.length_cons, List.length_nil]; omega, withV_snoc hr rows A42 c42 hrw, fun b hb => hb.2⟩ ⟨rfl, rfl, rfl, rfl, rfl, trivial⟩
    · have h22b := h22
      try simp only [sxb] at h22
      refine cj_exit (ej_then_exit (ej_then_exit (ej_blk_hit (ej_th (cj_seq (cj_region ?_))))))
      refine oj_step (y_loadN Try.isAgg60 Try.sizeOf60 rfl) rfl rfl rfl ?_
      refine oj_store rfl rfl rfl rfl Try.sizeOf60 rfl ?_
      refine oj_nil ?_
      refine ej_th (cj_ret ?_)
      have hie : i = vs.length := by omega
      subst hie
      rw [List.take_of_length_le (by rw [rowsV_len]; omega)] at hrw
      exact ej_retC1 rfl Try.results86 rfl (y_loadN Try.isAgg60 Try.sizeOf60 rfl) (fun w' hp => ⟨⟨⟨A16, c16, A6, c6, rows, w.heap.size, w'.heap.size⟩, hrw⟩, rfl, hp.below, by simp, by simp, fun g hg => with_facts hp hfp (by unfold maxLen; simp only [List.length_append, List.length_cons, List.length_nil]; omega) (by unfold maxLen; omega) (.tail _ (.head _)) (.head _) (.head _) g hg⟩)

end Go.Proofs.Ytehmifpofpifkaa
namespace Go.Proofs.Ytehmifpofpifkaa
open Go.Sx Go.RowKit Am
set_option maxRecDepth 20000
theorem k_Prices (res : List Int) (Ar : Option Addr) (cr : Nat) (vs : List ListV) (Av : Option Addr) (cv : Nat) (w : World) (hres : Rd w 1 enInt Ar res) (hvs : Rd w 1 encLs Av vs) (hgv : ∀ r ∈ vs, GoodL w r) : Calls Try.prog 34 #[.agg #[.slice Ar res.length cr, .slice Av vs.length cv]] w (fun e w' => ∃ A c, e = .returned (.tuple #[.slice A (CloA res vs).2.length c, .int .i64 (cloE res vs)]) ∧ Grow w w' ∧ Res w w' 1 enInt A (CloA res vs).2) := by
  have hlr := hres.len
  have hlv := hvs.len
  refine enter_pure (args := [.agg #[.slice Ar res.length cr, .slice Av vs.length cv]]) [sl (fun b => b < w.heap.size) 1 enInt Ar res, sl (fun b => b < w.heap.size) 1 encLs Av vs] Try.func34 rfl (by rw [Try.ntmps34]; simp) (fun g hg => by simp at hg; rcases hg with rfl | rfl; exact ⟨hres, fun _ h => h⟩; exact ⟨hvs, fun _ h => h⟩) ?_
  refine cj_seq (cj_region ?_)
  refine oj_box rfl rfl rfl (fun b1 => ?_)
  refine oj_step (y_assign rfl) rfl rfl rfl ?_
  refine oj_step (y_assign rfl) rfl rfl rfl ?_
  refine oj_nil ?_
  refine ej_th (cj_seq (cj_region ?_))
  refine oj_step (y_loadN Try.isAgg60 Try.sizeOf60 rfl) rfl rfl rfl ?_
  refine oj_call (X := { z : Option Addr × Nat × Option Addr × Nat × Nat × Nat // ∀ i, z.2.2.2.2.1 ≤ i ∧ i < z.2.2.2.2.2 → w.heap.size ≤ i }) (fun z => .tuple #[.agg #[.slice z.1.1 (CloA res vs).1.length z.1.2.1, .slice z.1.2.2.1 (CloA res vs).2.length z.1.2.2.2.1], .int .i64 (cloE res vs)]) (fun _ => []) (fun z => [sl (fun i => z.1.2.2.2.2.1 ≤ i ∧ i < z.1.2.2.2.2.2) 1 enInt z.1.1 (CloA res vs).1, sl (fun i => z.1.2.2.2.2.1 ≤ i ∧ i < z.1.2.2.2.2.2) 1 enInt z.1.2.2.1 (CloA res vs).2]) Try.call32 rfl (fun w1 hp => (k_Close res Ar cr vs Av cv w1 hp.rd hp.rd (fun r h => (hgv r h).mono hp.below)).mono fun e w2 ⟨z, h1, h2, h3, h4, h5⟩ => ⟨⟨z, fun i hi => Nat.le_trans hp.size ((h5 _ (.head _)).2 i hi).1⟩, h1, h2, h3, h4, h5⟩) rfl ?_
  rintro ⟨⟨q1, q2, q3, q4, q5, q6⟩, hq⟩
  dsimp only [List.nil_append, List.cons_append] at hq ⊢
  refine oj_step (y_move rfl) rfl rfl rfl ?_
  refine oj_step (y_extract rfl rfl) rfl rfl rfl ?_
  refine oj_step (y_extract rfl rfl) rfl rfl rfl ?_
  refine oj_alloc Try.zeroValue62 rfl rfl (fun b4 => ?_)
  refine oj_store rfl rfl rfl rfl Try.sizeOf62 rfl ?_
  refine oj_step (y_assign rfl) rfl rfl rfl ?_
  refine oj_nil ?_
  refine ej_th (cj_seq ?_)
  refine cj_regionG (gj_step (y_fa fa62_1 rfl) rfl rfl rfl (gj_step (y_load1 Try.isAgg43 rfl rfl) rfl rfl rfl (gj_step (y_move rfl) rfl rfl rfl (gj_step (y_assign rfl) rfl rfl rfl (gj_step (y_assign rfl) rfl rfl rfl (gj_nil ?_))))))
  refine ej_th (cj_ret ?_)
  exact ej_ret2 rfl Try.results34 rfl rfl (fun w' hp => ⟨q3, q4, rfl, hp.below, hp.resS (fp := fun i => q5 ≤ i ∧ i < q6) hq⟩)

set_option maxHeartbeats 1000000 in
theorem k_rPrices (res : List Int) (Ar : Option Addr) (cr : Nat) (vs : List ListV) (Av : Option Addr) (cv : Nat) (w : World) (hres : Rd w 1 enInt Ar res) (hvs : Rd w 1 encLs Av vs) (hgv : ∀ r ∈ vs, GoodL w r) : Calls Try.prog 42 #[.agg #[.slice Ar res.length cr, .slice Av vs.length cv]] w (fun e w' => ∃ A c, e = .returned (.tuple #[.slice A (CloA res vs).2.length c, .int .i64 (cloE res vs)]) ∧ Grow w w' ∧ Res w w' 1 enInt A (CloA res vs).2) := by
  have hlr := hres.len
  have hlv := hvs.len
  refine enter_pure (args := [.agg #[.slice Ar res.length cr, .slice Av vs.length cv]]) [sl (fun b => b < w.heap.size) 1 enInt Ar res, sl (fun b => b < w.heap.size) 1 encLs Av vs] Try.func42 rfl (by rw [Try.ntmps42]; simp) (fun g hg => by simp at hg; rcases hg with rfl | rfl; exact ⟨hres, fun _ h => h⟩; exact ⟨hvs, fun _ h => h⟩) ?_
  refine cj_seq (cj_region ?_)
  refine oj_box rfl rfl rfl (fun b1 => ?_)
  refine oj_step (y_assign rfl) rfl rfl rfl ?_
  refine oj_step (y_assign rfl) rfl rfl rfl ?_
  refine oj_nil ?_
  refine ej_th (cj_seq (cj_seq ?_))
  refine cj_regionG ?_
  refine gj_step (y_loadN Try.isAgg60 Try.sizeOf60 rfl) rfl rfl rfl (?_)
  refine gj_step (y_call Try.call41 rfl (fun w hp => k_rCheckC res Ar cr vs Av cv w hp.rd hp.rd (fun r h => (hgv r h).mono hp.below))) rfl rfl rfl ?_
  refine gj_step (y_assign rfl) rfl rfl rfl (?_)
  refine gj_nil ?_
  refine ej_th (cj_seq ?_)
  refine cj_regionG (gj_step (y_move rfl) rfl rfl rfl (gj_step (y_neq rfl rfl) rfl rfl rfl (gj_nil ?_)))
  refine ej_th ?_
  refine cj_cond rfl (fun h10 => ?_) (fun h10 => ?_)
  · have h10b := h10
    try simp only [sxb] at h10
    obtain ⟨e1, e2⟩ := cloA_no (cloE_no h10b)
    refine cj_seq ?_
    refine cj_regionG (gj_step (y_move rfl) rfl rfl rfl (gj_step (y_assign rfl) rfl rfl rfl (gj_step (y_assign rfl) rfl rfl rfl (gj_nil ?_))))
    refine ej_th (cj_ret (ej_then_ret ?_))
    exact ej_ret2 rfl Try.results42 rfl rfl (fun w' hp => ⟨none, 0, by rw [e1, e2]; rfl, hp.below, by rw [e1]; exact Res.nil⟩)
  · have h10b := h10
    try simp only [sxb] at h10
    have hyes := cloE_0 h10b
    obtain ⟨hco, hc5, hc6⟩ := clo_ok hyes
    obtain ⟨e1, e2⟩ := cloA_yes hyes
    refine cj_skip (ej_th (cj_seq ?_))
    refine cj_regionG (gj_step (y_assign rfl) rfl rfl rfl (gj_nil ?_))
    refine ej_th (cj_seq (cj_seq ?_))
    refine cj_regionG (gj_step (y_assign rfl) rfl rfl rfl (gj_nil ?_))
    refine ej_th (cj_block ?_)
    refine cj_ownNil 3 1 enInt ?_
    refine cj_lpi (X := Nat × Option Addr × Nat × List Int) [(1, _), (2, _), (3, _)] (fun ⟨k, A1, c1, ps⟩ => k ≤ res.length ∧ ps.length = k ∧ ps = ((List.range k).map (priceC res (rowsV vs)))) (fun ⟨k, A1, c1, ps⟩ => [(5, .slice A1 ps.length c1), (6, .int .i64 k)]) (fun ⟨k, A1, c1, ps⟩ => [ow 3 1 enInt A1 c1 ps, ownB b1 (cellsB 60 [.slice Ar res.length cr, .slice Av vs.length cv])]) (fun ⟨k, A1, c1, ps⟩ => [sl (fun b => b < w.heap.size) 1 enInt Ar res, sl (fun b => b < w.heap.size) 1 encLs Av vs]) (fun ⟨k, A1, c1, ps⟩ => res.length - k) (0, none, 0, []) (⟨Nat.zero_le _, rfl, rfl⟩) ⟨rfl, rfl, rfl, rfl, rfl, trivial⟩ ?_
    rintro ⟨k, A1, c1, ps⟩ ⟨hk, hpl, hps⟩
    dsimp only [List.cons_append, List.nil_append]
    refine cj_seq (cj_seq ?_)
    refine cj_regionG (gj_step (y_move rfl) rfl rfl rfl (gj_step (y_fa0 fa60_0 rfl) rfl rfl rfl (gj_step (y_load1 Try.isAgg43 rfl rfl) rfl rfl rfl (gj_step (y_lenA Try.underlying43 rfl) rfl rfl rfl (gj_step (y_lss rfl rfl) rfl rfl rfl (gj_nil ?_))))))
    refine ej_th ?_
    refine cj_cond rfl (fun h16 => ?_) (fun h16 => ?_)
    · have h16b := h16
      try simp only [sxb] at h16
      have hk5 : k < res.length := by omega
      refine cj_skip (ej_th (cj_seq (cj_block ?_)))
      refine cj_plan 11 (by kernel_rfl) (by kernel_rfl) ?_
      refine pl_y 0 rfl (y_move rfl) rfl rfl rfl rfl (by kernel_rfl) ?_
      refine pl_y 1 rfl (y_loadN Try.isAgg60 Try.sizeOf60 rfl) rfl rfl rfl rfl (by kernel_rfl) ?_
      refine pl_y 2 rfl (y_move rfl) rfl rfl rfl rfl (by kernel_rfl) ?_
      refine pl_y 5 rfl (y_loadN Try.isAgg60 Try.sizeOf60 rfl) rfl rfl rfl rfl (by kernel_rfl) ?_
      refine pl_w1 3 (by kernel_rfl) rfl rfl (pl_fire rfl rfl rfl (by kernel_rfl) ?_)
      refine oj_call (X := { z : WithZ // rowsV z.rows = withV (rowsV vs) k }) (fun z => .agg #[.slice z.1.B (withR res k).length z.1.d, .slice z.1.Bv z.1.rows.length z.1.dv]) (fun _ => []) (fun z => [sl (fun i => z.1.n1 ≤ i ∧ i < z.1.n2) 1 enInt z.1.B (withR res k), sl (fun i => z.1.n1 ≤ i ∧ i < z.1.n2) 1 encLs z.1.Bv z.1.rows, rwF (fun i => z.1.n1 ≤ i ∧ i < z.1.n2) z.1.rows]) Try.call86 rfl (fun w hp => k_again res Ar cr vs Av cv k w hp.rd hp.rd (fun r h => (hgv r h).mono hp.below) hco hk5) rfl ?_
      rintro ⟨z, hz⟩
      dsimp only [List.nil_append, List.cons_append]
      have hcw := clo_with (k := k) hco (by omega)
      refine oj_nil ?_
      refine ej_pl (lt_y (y_loadN Try.isAgg60 Try.sizeOf60 rfl) rfl (lt_w (by kernel_rfl) (lt_w (by kernel_rfl) (lt_y (y_move rfl) rfl (lt_nil))))) ?_
      refine pl_y 4 rfl (y_call Try.call85 rfl (fun w hp => by
        have h9 := k_Most (withR res k) z.B z.d z.rows z.Bv z.dv w hp.rd hp.rd (rw_good (fp := fun i => z.n1 ≤ i ∧ i < z.n2) hp (.tail _ (.tail _ (.head _)))) (by rw [hz]; exact hcw)
        rw [hz, most_best hcw.nn.1 hcw.nn.2] at h9
        exact h9)) rfl rfl rfl rfl (by kernel_rfl) ?_
      refine pl_y 6 rfl (y_call Try.call85 rfl (fun w hp => by
        have h9 := k_Most res Ar cr vs Av cv w hp.rd hp.rd (fun r h => (hgv r h).mono hp.below) hco
        rw [most_best hco.nn.1 hco.nn.2] at h9
        exact h9)) rfl rfl rfl rfl (by kernel_rfl) ?_
      refine pl_y 7 rfl (y_sub rfl rfl (by have h1 := best_bd hco; have h2 := best_bd hcw; omega)) rfl rfl rfl rfl (by kernel_rfl) ?_
      refine pl_w1 8 (by kernel_rfl) rfl rfl (pl_fire rfl rfl rfl (by kernel_rfl) ?_)
      refine oj_buildSlice (cs := [.int .i64 ((bestF (withR res k) (withV (rowsV vs) k)).2 - (bestF res (rowsV vs)).2)]) [.int .i64 0] Try.underlying43 Try.sizeOf3 Try.zeroValue3 rfl rfl (by kernel_rfl) (by kernel_rfl) rfl (fun b27 => ?_)
      refine oj_nil ?_
      refine ej_pl (lt_w (by kernel_rfl) (lt_y (y_call Try.call85 rfl (fun w hp => by
        have h9 := k_Most res Ar cr vs Av cv w hp.rd hp.rd (fun r h => (hgv r h).mono hp.below) hco
        rw [most_best hco.nn.1 hco.nn.2] at h9
        exact h9)) rfl (lt_y (y_call Try.call85 rfl (fun w hp => by
        have h9 := k_Most (withR res k) z.B z.d z.rows z.Bv z.dv w hp.rd hp.rd (rw_good (fp := fun i => z.n1 ≤ i ∧ i < z.n2) hp (.tail _ (.tail _ (.head _)))) (by rw [hz]; exact hcw)
        rw [hz, most_best hcw.nn.1 hcw.nn.2] at h9
        exact h9)) rfl (lt_y (y_loadN Try.isAgg60 Try.sizeOf60 rfl) rfl (lt_y (y_move rfl) rfl (lt_y (y_loadN Try.isAgg60 Try.sizeOf60 rfl) rfl (lt_y (y_move rfl) rfl (lt_nil)))))))) ?_
      refine pl_w1 9 (by kernel_rfl) rfl rfl (pl_fire rfl rfl rfl (by kernel_rfl) ?_)
      refine oj_append  el43 (fun _ => rfl) enInt_one rfl rfl rfl (reads_lit [((bestF (withR res k) (withV (rowsV vs) k)).2 - (bestF res (rowsV vs)).2)] (fun _ => rfl) rfl) (by unfold maxLen; simp only [List.length_append, List.length_cons, List.length_nil]; omega) (by simp only [List.length_append, List.length_cons, List.length_nil]; omega) rfl (fun A28 c28 => ?_)
      refine oj_nil ?_
      refine ej_pl (lt_y (y_sub rfl rfl (by have h1 := best_bd hco; have h2 := best_bd hcw; omega)) rfl (lt_w (by kernel_rfl) (lt_y (y_call Try.call85 rfl (fun w hp => by
        have h9 := k_Most (withR res k) z.B z.d z.rows z.Bv z.dv w hp.rd hp.rd (rw_good (fp := fun i => z.n1 ≤ i ∧ i < z.n2) hp (.tail _ (.tail _ (.head _)))) (by rw [hz]; exact hcw)
        rw [hz, most_best hcw.nn.1 hcw.nn.2] at h9
        exact h9)) rfl (lt_y (y_loadN Try.isAgg60 Try.sizeOf60 rfl) rfl (lt_y (y_move rfl) rfl (lt_y (y_loadN Try.isAgg60 Try.sizeOf60 rfl) rfl (lt_w (by kernel_rfl) (lt_nil)))))))) ?_
      refine pl_y 10 rfl (y_assign rfl) rfl rfl rfl rfl (by kernel_rfl) ?_
      refine pl_end (by kernel_rfl) ?_
      refine ej_blk (ej_th ?_)
      refine cj_regionG (gj_step (y_move rfl) rfl rfl rfl (gj_step (y_add rfl rfl (by omega)) rfl rfl rfl (gj_step (y_assign rfl) rfl rfl rfl (gj_nil ?_))))
      exact ej_nx (k + 1, A28, c28, ps ++ [((bestF (withR res k) (withV (rowsV vs) k)).2 - (bestF res (rowsV vs)).2)]) (by simp only; omega) ⟨by first | omega | (simp only; omega), by simp only [List.length_append, List.length_cons, List.length_nil]; omega, by rw [hps, prices_snoc]; rfl⟩ ⟨rfl, rfl, rfl, rfl, rfl, trivial⟩
    · have h16b := h16
      try simp only [sxb] at h16
      have hke : k = res.length := by omega
      subst hke
      refine cj_exit (ej_then_exit (ej_then_exit (ej_blk_hit (ej_th (cj_seq ?_)))))
      refine cj_regionG (gj_step (y_move rfl) rfl rfl rfl (gj_step (y_assign rfl) rfl rfl rfl (gj_step (y_assign rfl) rfl rfl rfl (gj_nil ?_))))
      refine ej_th (cj_ret ?_)
      have hpe : (CloA res vs).2 = ps := by rw [e1]; simp only [pricesL]; rw [← hps]
      exact ej_ret2 rfl Try.results42 rfl rfl (fun w' hp => ⟨A1, c1, by rw [hpe, e2], hp.below, by rw [hpe]; exact hp.res (fun _ => rfl) (by unfold maxLen; omega)⟩)

end Go.Proofs.Ytehmifpofpifkaa
namespace Go.Proofs.Ytehmifpofpifkaa
open Go Go.Sx Go.RowKit Am

def allN (p : Nat → Bool) : Nat → Nat → Bool
  | 0, _ => true
  | d + 1, k => p k && allN p d (k + 1)
theorem allN_s {p : Nat → Bool} {m k : Nat} (h : k < m) : allN p (m - k) k = (p k && allN p (m - (k + 1)) (k + 1)) := by
  obtain ⟨d, hd⟩ : ∃ d, m - k = d + 1 := ⟨m - k - 1, by omega⟩
  rw [hd, allN, show m - (k + 1) = d by omega]
theorem allN_iff {p : Nat → Bool} : ∀ (d k : Nat), allN p d k = true ↔ ∀ j, k ≤ j → j < k + d → p j = true
  | 0, k => ⟨fun _ j h1 h2 => absurd h2 (by omega), fun _ => rfl⟩
  | d + 1, k => by
    rw [allN, Bool.and_eq_true, allN_iff d (k + 1)]
    constructor
    · rintro ⟨h1, h2⟩ j hj1 hj2
      by_cases e : j = k
      · rw [e]; exact h1
      · exact h2 j (by omega) (by omega)
    · intro h
      exact ⟨h k (Nat.le_refl _) (by omega), fun j h1 h2 => h j (by omega) (by omega)⟩
def f1 (res ps to : List Int) (k : Nat) : Bool := !(decide (ps.getD k 0 < res.getD k 0) || (decide (res.getD k 0 < ps.getD k 0) && !(to.contains (k : Int))))
def gainF (rows : List (List Int)) (ps : List Int) (i : Nat) (x : Int) : Int := if 0 ≤ x then vv rows i x.toNat - ps.getD x.toNat 0 else 0
def f2j (rows : List (List Int)) (ps : List Int) (i : Nat) (g : Int) (j : Nat) : Bool := decide (vv rows i j - ps.getD j 0 ≤ g)
def f2 (m : Nat) (rows : List (List Int)) (ps to : List Int) (i : Nat) : Bool := decide (0 ≤ gainF rows ps i (to.getD i 0)) && allN (f2j rows ps i (gainF rows ps i (to.getD i 0))) m 0
def fairB (res : List Int) (rows : List (List Int)) (ps to : List Int) : Bool := allN (f1 res ps to) res.length 0 && allN (f2 res.length rows ps to) rows.length 0
def bst (rows : List (List Int)) (ps : List Int) (i : Nat) : Nat → Nat → Int → Int
  | 0, _, b => b
  | d + 1, j, b => bst rows ps i d (j + 1) (max b (vv rows i j - ps.getD j 0))
theorem bst_s {rows : List (List Int)} {ps : List Int} {i m j : Nat} {b : Int} (h : j < m) : bst rows ps i (m - j) j b = bst rows ps i (m - (j + 1)) (j + 1) (max b (vv rows i j - ps.getD j 0)) := by
  obtain ⟨d, hd⟩ : ∃ d, m - j = d + 1 := ⟨m - j - 1, by omega⟩
  rw [hd, bst, show m - (j + 1) = d by omega]
theorem bst_le (rows : List (List Int)) (ps : List Int) (i : Nat) (g : Int) : ∀ (d j : Nat) (b : Int), decide (bst rows ps i d j b ≤ g) = (decide (b ≤ g) && allN (f2j rows ps i g) d j)
  | 0, j, b => by rw [bst, allN, Bool.and_true]
  | d + 1, j, b => by
    rw [bst, allN, bst_le rows ps i g d (j + 1), ← Bool.and_assoc]
    congr 1
    unfold f2j
    rw [Bool.eq_iff_iff, Bool.and_eq_true, decide_eq_true_iff, decide_eq_true_iff, decide_eq_true_iff]
    omega
/-- the error of an award that is asked -/
def awB (res : List Int) (vs : List ListV) (to ps : List Int) : Bool := (fitsB res.length vs.length to && ((ps.length : Int) == (res.length : Int))) && ps.all okv
def FairV (res : List Int) (vs : List ListV) (to ps : List Int) : Bool := (cloB res vs && awB res vs to ps) && fairB res (rowsV vs) ps to
def FairE (res : List Int) (vs : List ListV) (to ps : List Int) : Int := if cloB res vs = true then (if awB res vs to ps = true then 0 else 63) else 62
theorem fair_no {res : List Int} {vs : List ListV} {to ps : List Int} (h : cloB res vs = false) : FairV res vs to ps = false ∧ FairE res vs to ps = 62 := by unfold FairV FairE; rw [h]; simp
theorem fair_no2 {res : List Int} {vs : List ListV} {to ps : List Int} (h : cloB res vs = true) (h2 : awB res vs to ps = false) : FairV res vs to ps = false ∧ FairE res vs to ps = 63 := by unfold FairV FairE; rw [h, h2]; simp
theorem fair_yes {res : List Int} {vs : List ListV} {to ps : List Int} (h : cloB res vs = true) (h2 : awB res vs to ps = true) : FairV res vs to ps = fairB res (rowsV vs) ps to ∧ FairE res vs to ps = 0 := by unfold FairV FairE; rw [h, h2]; simp
theorem aw_ok {res : List Int} {vs : List ListV} {to ps : List Int} (h : awB res vs to ps = true) : (OkL res.length to ∧ to.length = vs.length) ∧ ps.length = res.length ∧ ∀ p ∈ ps, 0 ≤ p ∧ p ≤ 100000 := by
  unfold awB at h
  rw [Bool.and_eq_true, Bool.and_eq_true, beq_iff_eq] at h
  exact ⟨fits_ok h.1.1, by have := h.1.2; omega, fun p hp => btw_t.1 (List.all_eq_true.1 h.2 p hp)⟩
theorem aw_V (res : List Int) (vs : List ListV) (to ps : List Int) : (((!(fitsB res.length vs.length to)) || ((ps.length : Int) != (res.length : Int))) || !(ps.all okv)) = !(awB res vs to ps) := by
  unfold awB
  rw [Bool.not_and, Bool.not_and]; rfl
/-- the reference asks the same of a price -/
theorem f1_ref (res ps to : List Int) (k : Nat) : (decide (ps.getD k 0 < res.getD k 0) || (decide (seek to (k : Int) 0 < 0) && (ps.getD k 0 != res.getD k 0))) = !(f1 res ps to k) := by
  unfold f1
  have h := seek_has to (k : Int) 0 (Int.le_refl _)
  have e : decide (seek to (k : Int) 0 < 0) = !(to.contains (k : Int)) := by
    rw [← h]
    by_cases h0 : 0 ≤ seek to (k : Int) 0
    · rw [decide_eq_true h0, decide_eq_false (by omega)]; rfl
    · rw [decide_eq_false h0, decide_eq_true (by omega)]; rfl
  rw [e, Bool.not_not]
  by_cases h1 : ps.getD k 0 < res.getD k 0
  · rw [decide_eq_true h1]; rfl
  · rw [decide_eq_false h1, Bool.false_or, Bool.false_or, Bool.and_comm]
    congr 1
    by_cases h2 : ps.getD k 0 = res.getD k 0
    · rw [decide_eq_false (by omega)]; exact bne_eq_false_iff_eq.2 h2
    · rw [decide_eq_true (by omega)]; exact bne_iff_ne.2 h2
end Go.Proofs.Ytehmifpofpifkaa
namespace Go.Proofs.Ytehmifpofpifkaa
open Go.Sx Go.RowKit Am
set_option maxRecDepth 20000
theorem k_clF (n : Int) (w : World)  : Calls Try.prog 88 #[.int .i64 n] w (fun e w' => e = .returned (.bool (!(okv n))) ∧ Grow w w') := by
  refine enter_pure (args := [.int .i64 n]) [] Try.func88 rfl (by rw [Try.ntmps88]; simp) (by simp) ?_
  refine cj_seq ?_
  refine cj_regionG (gj_step (y_assign rfl) rfl rfl rfl (gj_nil ?_))
  refine ej_th (cj_seq ?_)
  refine cj_regionG ?_
  refine gj_step (y_move rfl) rfl rfl rfl (?_)
  refine gj_step (y_call Try.call49 rfl (fun w hp => k_within _ _ _ w)) rfl rfl rfl ?_
  refine gj_step (y_not rfl) rfl rfl rfl (gj_step (y_assign rfl) rfl rfl rfl (?_))
  refine gj_nil ?_
  refine ej_th (cj_ret ?_)
  exact ej_ret1 rfl Try.results88 rfl (fun w' hp => ⟨rfl, hp.below⟩)

theorem k_IndexF (l : List Int) (A : Option Addr) (c : Nat) (w : World) (hl : Rd w 1 enInt A l) : Calls Try.prog 96 #[.slice A l.length c, .func (.func 88) #[] #[]] w (fun e w' => e = .returned (.int .i64 (firstNo okv l 0)) ∧ Grow w w') := by
  have hlen := hl.len
  refine enter_pure (args := [.slice A l.length c, .func (.func 88) #[] #[]]) [sl (fun b => b < w.heap.size) 1 enInt A l] Try.func96 rfl (by rw [Try.ntmps96]; simp) (fun g hg => by simp at hg; subst hg; exact ⟨hl, fun _ h => h⟩) ?_
  refine cj_seq ?_
  refine cj_regionG (gj_step (y_assign rfl) rfl rfl rfl (gj_nil ?_))
  refine ej_th (cj_seq (cj_seq ?_))
  refine cj_regionG (gj_step (y_move rfl) rfl rfl rfl (gj_step (y_lenA Try.underlying43 rfl) rfl rfl rfl (gj_step (y_move rfl) rfl rfl rfl (gj_nil ?_))))
  refine ej_th (cj_block ?_)
  refine cj_lpic (X := Nat) [(0, _), (1, _), (7, _)] (fun k => k ≤ l.length ∧ firstNo okv (l.drop k) k = firstNo okv l 0) (fun k => [(8, .int .i64 k)]) (fun k => l.length - k) 0 (⟨Nat.zero_le _, rfl⟩) ⟨rfl, rfl, rfl, rfl, trivial⟩ ?_
  rintro k ⟨hk, hsk⟩
  dsimp only [List.cons_append, List.nil_append]
  refine cj_seq ?_
  refine cj_regionG (gj_step (y_lss rfl rfl) rfl rfl rfl (gj_nil ?_))
  refine ej_th (cj_seq ?_)
  refine cj_cond rfl (fun h9 => ?_) (fun h9 => ?_)
  · have h9b := h9
    try simp only [sxb] at h9
    obtain ⟨x, hx⟩ : ∃ x, l[k]? = some x := ⟨_, List.getElem?_eq_getElem (by omega)⟩
    rw [firstNo_drop okv l k x hx] at hsk
    refine cj_skip (ej_th (cj_seq (cj_block (cj_seq ?_))))
    refine cj_regionG (gj_step (y_move rfl) rfl rfl rfl (gj_step (y_assign rfl) rfl rfl rfl (gj_nil ?_)))
    refine ej_th (cj_seq ?_)
    refine cj_regionG ?_
    refine gj_step (y_move rfl) rfl rfl rfl (gj_step (y_move rfl) rfl rfl rfl (gj_step (y_move rfl) rfl rfl rfl (gj_step (y_ixR (reads_sl) Try.underlying43 Try.sizeOf3 rfl rfl (⟨by omega, by omega⟩)) rfl rfl rfl (gj_step (y_ld0 (reads_sl) Try.isAgg3 rfl (hx) rfl) rfl rfl rfl (?_)))))
    refine gj_step (y_callV Try.call88 rfl rfl (fun w hp => k_clF x w)) rfl rfl rfl ?_
    refine gj_nil ?_
    refine ej_th ?_
    refine cj_cond rfl (fun h16 => ?_) (fun h16 => ?_)
    · have h16b := h16
      try simp only [sxb] at h16
      refine cj_seq ?_
      refine cj_regionG (gj_step (y_move rfl) rfl rfl rfl (gj_step (y_assign rfl) rfl rfl rfl (gj_nil ?_)))
      refine ej_th (cj_ret (ej_blk_ret (ej_then_ret (ej_then_ret (ej_blk_ret (ej_then_ret ?_))))))
      refine ej_ret1 rfl Try.results96 rfl (fun w' hp => ⟨?_, hp.below⟩)
      rw [← hsk, if_neg (by rw [not_t h16b]; simp)]
    · have h16b := h16
      try simp only [sxb] at h16
      refine cj_skip (ej_blk (ej_th ?_))
      refine cj_regionG (gj_step (y_add rfl rfl (by omega)) rfl rfl rfl (gj_step (y_move rfl) rfl rfl rfl (gj_nil ?_)))
      exact ej_nx (k + 1) (by omega) ⟨by omega, by rw [← hsk, if_pos (not_f h16b)]⟩ ⟨rfl, rfl, rfl, rfl, trivial⟩
  · have h9b := h9
    try simp only [sxb] at h9
    refine cj_exit (ej_then_exit (ej_then_exit (ej_blk_hit (ej_th (cj_seq ?_)))))
    refine cj_regionG (gj_step (y_assign rfl) rfl rfl rfl (gj_nil ?_))
    refine ej_th (cj_ret ?_)
    refine ej_ret1 rfl Try.results96 rfl (fun w' hp => ⟨?_, hp.below⟩)
    rw [← hsk, List.drop_of_length_le (by omega)]; rfl

theorem k_ContF (l : List Int) (A : Option Addr) (c : Nat) (w : World) (hl : Rd w 1 enInt A l) : Calls Try.prog 65 #[.slice A l.length c, .func (.func 88) #[] #[]] w (fun e w' => e = .returned (.bool (!(l.all okv))) ∧ Grow w w') := by
  refine enter_pure (args := [.slice A l.length c, .func (.func 88) #[] #[]]) [sl (fun b => b < w.heap.size) 1 enInt A l] Try.func65 rfl (by rw [Try.ntmps65]; simp) (fun g hg => by simp at hg; subst hg; exact ⟨hl, fun _ h => h⟩) ?_
  refine cj_seq ?_
  refine cj_regionG (gj_step (y_assign rfl) rfl rfl rfl (gj_nil ?_))
  refine ej_th (cj_seq ?_)
  refine cj_regionG ?_
  refine gj_step (y_move rfl) rfl rfl rfl (gj_step (y_move rfl) rfl rfl rfl (?_))
  refine gj_step (y_call Try.call96 rfl (fun w hp => k_IndexF l A c w hp.rd)) rfl rfl rfl ?_
  refine gj_step (y_geq rfl rfl) rfl rfl rfl (gj_step (y_assign rfl) rfl rfl rfl (?_))
  refine gj_nil ?_
  refine ej_th (cj_ret ?_)
  refine ej_ret1 rfl Try.results65 rfl (fun w' hp => ⟨?_, hp.below⟩)
  rw [firstNo_all okv l]

set_option maxHeartbeats 1000000 in
theorem k_Fair (res : List Int) (Ar : Option Addr) (cr : Nat) (vs : List ListV) (Av : Option Addr) (cv : Nat) (to : List Int) (At : Option Addr) (ct : Nat) (ps : List Int) (Ap : Option Addr) (cp : Nat) (w : World) (hres : Rd w 1 enInt Ar res) (hvs : Rd w 1 encLs Av vs) (hgv : ∀ r ∈ vs, GoodL w r) (hto : Rd w 1 enInt At to) (hps : Rd w 1 enInt Ap ps) : Calls Try.prog 44 #[.agg #[.slice Ar res.length cr, .slice Av vs.length cv], .agg #[.slice At to.length ct, .slice Ap ps.length cp]] w (fun e w' => e = .returned (.tuple #[.bool (FairV res vs to ps), .int .i64 (FairE res vs to ps)]) ∧ Grow w w') := by
  have hlr := hres.len
  have hlv := hvs.len
  have hlt := hto.len
  have hlp := hps.len
  refine enter_pure (args := [.agg #[.slice Ar res.length cr, .slice Av vs.length cv], .agg #[.slice At to.length ct, .slice Ap ps.length cp]]) [sl (fun b => b < w.heap.size) 1 enInt Ar res, sl (fun b => b < w.heap.size) 1 encLs Av vs, sl (fun b => b < w.heap.size) 1 enInt At to, sl (fun b => b < w.heap.size) 1 enInt Ap ps] Try.func44 rfl (by rw [Try.ntmps44]; simp) (fun g hg => by simp at hg; rcases hg with rfl | rfl | rfl | rfl; exact ⟨hres, fun _ h => h⟩; exact ⟨hvs, fun _ h => h⟩; exact ⟨hto, fun _ h => h⟩; exact ⟨hps, fun _ h => h⟩) ?_
  refine cj_seq (cj_region ?_)
  refine oj_box rfl rfl rfl (fun b2 => ?_)
  refine oj_box rfl rfl rfl (fun b3 => ?_)
  refine oj_step (y_assign rfl) rfl rfl rfl ?_
  refine oj_step (y_assign rfl) rfl rfl rfl ?_
  refine oj_nil ?_
  refine ej_th (cj_seq (cj_seq ?_))
  refine cj_regionG ?_
  refine gj_step (y_loadN Try.isAgg60 Try.sizeOf60 rfl) rfl rfl rfl (?_)
  refine gj_step (y_call Try.call40 rfl (fun w hp => k_CheckC res Ar cr vs Av cv w hp.rd hp.rd (fun r h => (hgv r h).mono hp.below))) rfl rfl rfl ?_
  refine gj_step (y_assign rfl) rfl rfl rfl (?_)
  refine gj_nil ?_
  refine ej_th (cj_seq ?_)
  refine cj_regionG (gj_step (y_move rfl) rfl rfl rfl (gj_step (y_neq rfl rfl) rfl rfl rfl (gj_nil ?_)))
  refine ej_th ?_
  refine cj_cond rfl (fun h19 => ?_) (fun h19 => ?_)
  · have h19b := h19
    try simp only [sxb] at h19
    obtain ⟨e1, e2⟩ := fair_no (to := to) (ps := ps) (cloE_no h19b)
    have hno := cloE_no h19b
    refine cj_seq ?_
    refine cj_regionG (gj_step (y_move rfl) rfl rfl rfl (gj_step (y_assign rfl) rfl rfl rfl (gj_step (y_assign rfl) rfl rfl rfl (gj_nil ?_))))
    refine ej_th (cj_ret (ej_then_ret ?_))
    refine ej_ret2 rfl Try.results44 rfl rfl (fun w' hp => ⟨?_, hp.below⟩)
    rw [e1, e2, cloE, hno]; rfl
  · have h19b := h19
    try simp only [sxb] at h19
    have hyes := cloE_0 h19b
    obtain ⟨hco, hc5, hc6⟩ := clo_ok hyes
    refine cj_skip (ej_th (cj_seq (cj_seq ?_)))
    refine cj_regionG ?_
    refine gj_step (y_loadN Try.isAgg60 Try.sizeOf60 rfl) rfl rfl rfl (gj_step (y_build (cs := [.slice Ar res.length cr, .slice Av vs.length cv]) st117 rfl (by kernel_rfl)) rfl rfl rfl (gj_step (y_fa0 fa62_0 rfl) rfl rfl rfl (gj_step (y_load1 Try.isAgg43 rfl rfl) rfl rfl rfl (?_))))
    refine gj_step (y_call Try.call80 rfl (fun w hp => k_fits res Ar cr vs Av cv to At ct w hp.rd hp.rd hp.rd)) rfl rfl rfl ?_
    refine gj_step (y_not rfl) rfl rfl rfl (gj_step (y_move rfl) rfl rfl rfl (?_))
    refine gj_g 7 27 34 rfl rfl rfl rfl (fun hg27 => gj_yes rfl rfl rfl (y_fa fa62_1 rfl) rfl rfl (gj_yes rfl rfl rfl (y_load1 Try.isAgg43 rfl rfl) rfl rfl (gj_yes rfl rfl rfl (y_lenA Try.underlying43 rfl) rfl rfl (gj_yes rfl rfl rfl (y_fa0 fa60_0 rfl) rfl rfl (gj_yes rfl rfl rfl (y_load1 Try.isAgg43 rfl rfl) rfl rfl (gj_yes rfl rfl rfl (y_lenA Try.underlying43 rfl) rfl rfl (gj_yes rfl rfl rfl (y_neq rfl rfl) rfl rfl (gj_nil rfl)))))))) ?_
    refine gj_step (y_or rfl rfl rfl) rfl rfl rfl (gj_step (y_move rfl) rfl rfl rfl (?_))
    refine gj_g 3 36 39 rfl rfl rfl rfl (fun hg36 => gj_yes rfl rfl rfl (y_fa fa62_1 rfl) rfl rfl (gj_yes rfl rfl rfl (y_load1 Try.isAgg43 rfl rfl) rfl rfl (gj_yes rfl rfl rfl (y_call Try.call65 rfl (fun w hp => k_ContF ps Ap cp w hp.rd)) rfl rfl (gj_nil rfl)))) ?_
    refine gj_step (y_or rfl rfl rfl) rfl rfl rfl (?_)
    refine gj_nil ?_
    refine ej_th ?_
    refine cj_cond rfl (fun h40 => ?_) (fun h40 => ?_)
    · have h40b := h40
      try simp only [sxb] at h40
      rw [aw_V] at h40b
      obtain ⟨e1, e2⟩ := fair_no2 hyes (not_t h40b)
      refine cj_seq ?_
      refine cj_regionG (gj_step (y_assign rfl) rfl rfl rfl (gj_step (y_assign rfl) rfl rfl rfl (gj_nil ?_)))
      refine ej_th (cj_ret (ej_then_ret ?_))
      refine ej_ret2 rfl Try.results44 rfl rfl (fun w' hp => ⟨?_, hp.below⟩)
      rw [e1, e2]
    · have h40b := h40
      try simp only [sxb] at h40
      rw [aw_V] at h40b
      have hy2 := not_f h40b
      obtain ⟨e1, e2⟩ := fair_yes hyes hy2
      obtain ⟨⟨hok, htl⟩, hpl, hpv⟩ := aw_ok hy2
      have h6 := hco.m
      refine cj_skip (ej_th (cj_seq (cj_seq ?_)))
      refine cj_regionG (gj_step (y_fa fa62_1 rfl) rfl rfl rfl (gj_step (y_load1 Try.isAgg43 rfl rfl) rfl rfl rfl (gj_step (y_lenA Try.underlying43 rfl) rfl rfl rfl (gj_step (y_move rfl) rfl rfl rfl (gj_nil ?_)))))
      refine ej_th (cj_block ?_)
      refine cj_lpic (X := Nat) [(2, _), (3, _), (42, _), (43, _)] (fun k => k ≤ res.length ∧ allN (f1 res ps to) (res.length - k) k = allN (f1 res ps to) res.length 0) (fun k => [(44, .int .i64 k)]) (fun k => res.length - k) 0 (⟨Nat.zero_le _, rfl⟩) ⟨rfl, rfl, rfl, rfl, rfl, trivial⟩ ?_
      rintro k ⟨hk, hsk⟩
      dsimp only [List.cons_append, List.nil_append]
      refine cj_seq ?_
      refine cj_regionG (gj_step (y_lss rfl rfl) rfl rfl rfl (gj_nil ?_))
      refine ej_th (cj_seq ?_)
      refine cj_cond rfl (fun h45 => ?_) (fun h45 => ?_)
      · have h45b := h45
        try simp only [sxb] at h45
        have hpk : ps[k]? = some (ps.getD k 0) := geq (0 : Int) (by omega)
        have hrk : res[((k : Nat) : Int).toNat]? = some (res.getD k 0) := by rw [show ((k : Nat) : Int).toNat = k by omega, List.getD_eq_getElem?_getD, List.getElem?_eq_getElem (by omega)]; rfl
        rw [allN_s (by omega)] at hsk
        refine cj_skip (ej_th (cj_seq (cj_block (cj_seq ?_))))
        refine cj_regionG (gj_step (y_move rfl) rfl rfl rfl (gj_step (y_ixR (reads_sl) Try.underlying43 Try.sizeOf3 rfl rfl (⟨by omega, by omega⟩)) rfl rfl rfl (gj_step (y_ld0 (reads_sl) Try.isAgg3 rfl (hpk) rfl) rfl rfl rfl (gj_step (y_assign rfl) rfl rfl rfl (gj_step (y_assign rfl) rfl rfl rfl (gj_nil ?_))))))
        refine ej_th (cj_seq ?_)
        refine cj_regionG ?_
        refine gj_step (y_move rfl) rfl rfl rfl (gj_step (y_fa0 fa60_0 rfl) rfl rfl rfl (gj_step (y_load1 Try.isAgg43 rfl rfl) rfl rfl rfl (gj_step (y_move rfl) rfl rfl rfl (gj_step (y_ixR (reads_sl) Try.underlying43 Try.sizeOf3 rfl rfl (⟨by omega, by omega⟩)) rfl rfl rfl (gj_step (y_ld0 (reads_sl) Try.isAgg3 rfl (hrk) rfl) rfl rfl rfl (gj_step (y_lss rfl rfl) rfl rfl rfl (gj_step (y_move rfl) rfl rfl rfl (?_))))))))
        refine gj_g 14 56 70 rfl rfl rfl rfl (fun hg56 => gj_yes rfl rfl rfl (y_move rfl) rfl rfl (gj_yes rfl rfl rfl (y_fa0 fa60_0 rfl) rfl rfl (gj_yes rfl rfl rfl (y_load1 Try.isAgg43 rfl rfl) rfl rfl (gj_yes rfl rfl rfl (y_move rfl) rfl rfl (gj_yes rfl rfl rfl (y_ixR (reads_sl) Try.underlying43 Try.sizeOf3 rfl rfl (⟨by omega, by omega⟩)) rfl rfl (gj_yes rfl rfl rfl (y_ld0 (reads_sl) Try.isAgg3 rfl (hrk) rfl) rfl rfl (gj_yes rfl rfl rfl (y_gtr rfl rfl) rfl rfl (gj_yes rfl rfl rfl (y_move rfl) rfl rfl (gj_g 5 64 69 rfl rfl rfl rfl (fun hg64 => gj_yes rfl rfl rfl (y_fa0 fa62_0 rfl) rfl rfl (gj_yes rfl rfl rfl (y_load1 Try.isAgg43 rfl rfl) rfl rfl (gj_yes rfl rfl rfl (y_move rfl) rfl rfl (gj_yes rfl rfl rfl (y_call Try.call89 rfl (fun w hp => k_ContI to At ct (k : Nat) w hp.rd)) rfl rfl (gj_yes rfl rfl rfl (y_not rfl) rfl rfl (gj_nil rfl)))))) (gj_yes rfl rfl rfl (y_and rfl rfl rfl) rfl rfl (gj_nil rfl))))))))))) ?_
        refine gj_step (y_or rfl rfl rfl) rfl rfl rfl (?_)
        refine gj_nil ?_
        refine ej_th ?_
        refine cj_cond rfl (fun h71 => ?_) (fun h71 => ?_)
        · have h71b := h71
          try simp only [sxb] at h71
          have hf1 : f1 res ps to k = false := by unfold f1; rw [h71b]; rfl
          refine cj_seq ?_
          refine cj_regionG (gj_step (y_assign rfl) rfl rfl rfl (gj_step (y_assign rfl) rfl rfl rfl (gj_nil ?_)))
          refine ej_th (cj_ret (ej_blk_ret (ej_then_ret (ej_then_ret (ej_blk_ret (ej_then_ret ?_))))))
          refine ej_ret2 rfl Try.results44 rfl rfl (fun w' hp => ⟨?_, hp.below⟩)
          rw [e1, e2, fairB, ← hsk, hf1]; rfl
        · have h71b := h71
          try simp only [sxb] at h71
          have hf1 : f1 res ps to k = true := by unfold f1; rw [h71b]; rfl
          refine cj_skip (ej_blk (ej_th ?_))
          refine cj_regionG (gj_step (y_add rfl rfl (by omega)) rfl rfl rfl (gj_step (y_move rfl) rfl rfl rfl (gj_nil ?_)))
          exact ej_nx (k + 1) (by omega) ⟨by omega, by rw [← hsk, hf1, Bool.true_and]⟩ ⟨rfl, rfl, rfl, rfl, rfl, trivial⟩
      · have h45b := h45
        try simp only [sxb] at h45
        rw [show res.length - k = 0 by omega, allN] at hsk
        refine cj_exit (ej_then_exit (ej_then_exit (ej_blk_hit (ej_th (cj_seq (cj_seq ?_))))))
        refine cj_regionG (gj_step (y_fa fa60_1 rfl) rfl rfl rfl (gj_step (y_load1 Try.isAgg58 rfl rfl) rfl rfl rfl (gj_step (y_lenA Try.underlying58 rfl) rfl rfl rfl (gj_step (y_move rfl) rfl rfl rfl (gj_nil ?_)))))
        refine ej_th (cj_block ?_)
        refine cj_lpic (X := Nat) [(3, _), (74, _), (75, _)] (fun i => i ≤ vs.length ∧ allN (f2 res.length (rowsV vs) ps to) (vs.length - i) i = allN (f2 res.length (rowsV vs) ps to) vs.length 0) (fun i => [(76, .int .i64 i)]) (fun i => vs.length - i) 0 (⟨Nat.zero_le _, rfl⟩) ⟨rfl, rfl, rfl, rfl, trivial⟩ ?_
        rintro i ⟨hi, hsi⟩
        dsimp only [List.cons_append, List.nil_append]
        refine cj_seq ?_
        refine cj_regionG (gj_step (y_lss rfl rfl) rfl rfl rfl (gj_nil ?_))
        refine ej_th (cj_seq ?_)
        refine cj_cond rfl (fun h77 => ?_) (fun h77 => ?_)
        · have h77b := h77
          try simp only [sxb] at h77
          obtain ⟨r, hr⟩ : ∃ r, vs[i]? = some r := ⟨_, List.getElem?_eq_getElem (by omega)⟩
          have hgr := hgv r (List.mem_of_getElem? hr)
          have hrl := hgr.len
          have hrm : r.l.length = res.length := hco.len _ (List.mem_of_getElem? (rowsV_get hr))
          have hvx : ∀ j, j < r.l.length → r.l[j]? = some (vv (rowsV vs) i j) ∧ 0 ≤ vv (rowsV vs) i j ∧ vv (rowsV vs) i j ≤ 100000 := fun j hj => by
            have h1 : r.l[j]? = some r.l[j] := List.getElem?_eq_getElem hj
            rw [vv_get hr h1]
            exact ⟨h1, hco.val _ (List.mem_of_getElem? (rowsV_get hr)) _ (List.getElem_mem _)⟩
          have hti : to[((i : Nat) : Int).toNat]? = some (to.getD i 0) := by rw [show ((i : Nat) : Int).toNat = i by omega, List.getD_eq_getElem?_getD, List.getElem?_eq_getElem (by omega)]; rfl
          have hxr := hok.rng (to.getD i 0) (getD_mem (by omega))
          refine cj_rd hgr (fun _ h => h) ?_
          rw [allN_s (by omega)] at hsi
          refine cj_skip (ej_th (cj_seq (cj_block (cj_seq ?_))))
          refine cj_regionG (gj_step (y_move rfl) rfl rfl rfl (gj_step (y_ixR (reads_sl) Try.underlying58 Try.sizeOf43 rfl rfl (⟨by omega, by omega⟩)) rfl rfl rfl (gj_step (y_ld0 (reads_sl) Try.isAgg43 rfl (hr) rfl) rfl rfl rfl (gj_step (y_assign rfl) rfl rfl rfl (gj_step (y_assign rfl) rfl rfl rfl (gj_nil ?_))))))
          refine ej_th (cj_seq ?_)
          refine cj_regionG (gj_step (y_assign rfl) rfl rfl rfl (gj_nil ?_))
          refine ej_th ?_
          refine cj_cutic (X := Unit) [(76, _), (3, _), (74, _), (75, _), (10, _)] ⟨rfl, rfl, rfl, rfl, rfl, trivial⟩ (fun _ => True) (fun _ => [(11, .int .i64 (gainF (rowsV vs) ps i (to.getD i 0)))]) ?_ ?_
          · refine cj_seq ?_
            refine cj_regionG (gj_step (y_fa0 fa62_0 rfl) rfl rfl rfl (gj_step (y_load1 Try.isAgg43 rfl rfl) rfl rfl rfl (gj_step (y_move rfl) rfl rfl rfl (gj_step (y_ixR (reads_sl) Try.underlying43 Try.sizeOf3 rfl rfl (⟨by omega, by omega⟩)) rfl rfl rfl (gj_step (y_ld0 (reads_sl) Try.isAgg3 rfl (hti) rfl) rfl rfl rfl (gj_step (y_assign rfl) rfl rfl rfl (gj_nil ?_)))))))
            refine ej_th (cj_seq ?_)
            refine cj_regionG (gj_step (y_move rfl) rfl rfl rfl (gj_step (y_geq rfl rfl) rfl rfl rfl (gj_nil ?_)))
            refine ej_th ?_
            refine cj_cond rfl (fun h87 => ?_) (fun h87 => ?_)
            · have h87b := h87
              try simp only [sxb] at h87
              obtain ⟨hvt, hvt2⟩ := hvx (to.getD i 0).toNat (by omega)
              have hpt : ps[(to.getD i 0).toNat]? = some (ps.getD (to.getD i 0).toNat 0) := geq (0 : Int) (by omega)
              have hptb := hpv _ (getD_mem (l := ps) (d := 0) (by omega : (to.getD i 0).toNat < ps.length))
              have hg : (gainF (rowsV vs) ps i (to.getD i 0)) = vv (rowsV vs) i (to.getD i 0).toNat - ps.getD (to.getD i 0).toNat 0 := by unfold gainF; rw [if_pos h87]
              refine cj_draw (by kernel_rfl) (by kernel_rfl) (gj_step (y_move rfl) rfl rfl rfl (gj_step (y_move rfl) rfl rfl rfl (gj_step (y_ixR (reads_sl) Try.underlying43 Try.sizeOf3 rfl rfl (⟨by omega, by omega⟩)) rfl rfl rfl (gj_step (y_ld0 (reads_sl) Try.isAgg3 rfl (hvt) rfl) rfl rfl rfl (gj_step (y_fa fa62_1 rfl) rfl rfl rfl (gj_step (y_load1 Try.isAgg43 rfl rfl) rfl rfl rfl (gj_step (y_move rfl) rfl rfl rfl (gj_step (y_ixR (reads_sl) Try.underlying43 Try.sizeOf3 rfl rfl (⟨by omega, by omega⟩)) rfl rfl rfl (gj_step (y_ld0 (reads_sl) Try.isAgg3 rfl (hpt) rfl) rfl rfl rfl (gj_step (y_sub rfl rfl (by omega)) rfl rfl rfl (gj_step (y_assign rfl) rfl rfl rfl (gj_nil ?_))))))))))))
              rw [← hg]
              exact ej_ct () trivial ⟨rfl, rfl, rfl, rfl, rfl, rfl, trivial⟩
            · have h87b := h87
              try simp only [sxb] at h87
              have hg : (gainF (rowsV vs) ps i (to.getD i 0)) = 0 := by unfold gainF; rw [if_neg (by omega)]
              refine cj_skip ?_
              refine ej_ct () trivial ?_
              rw [hg]
              exact ⟨rfl, rfl, rfl, rfl, rfl, rfl, trivial⟩
          · rintro - -
            dsimp only [List.cons_append, List.nil_append]
            refine cj_seq ?_
            refine cj_regionG (gj_step (y_assign rfl) rfl rfl rfl (gj_nil ?_))
            refine ej_th (cj_seq (cj_seq ?_))
            refine cj_regionG (gj_step (y_move rfl) rfl rfl rfl (gj_step (y_lenA Try.underlying43 rfl) rfl rfl rfl (gj_step (y_move rfl) rfl rfl rfl (gj_nil ?_))))
            refine ej_th (cj_block ?_)
            refine cj_lpic (X := Nat × Int) [(11, _), (76, _), (3, _), (74, _), (75, _), (98, _), (99, _)] (fun ⟨j, b⟩ => j ≤ r.l.length ∧ (0 ≤ b ∧ b ≤ 100000) ∧ bst (rowsV vs) ps i (r.l.length - j) j b = bst (rowsV vs) ps i r.l.length 0 0) (fun ⟨j, b⟩ => [(13, .int .i64 b), (100, .int .i64 j)]) (fun ⟨j, b⟩ => r.l.length - j) (0, 0) (⟨Nat.zero_le _, by omega, rfl⟩) ⟨rfl, rfl, rfl, rfl, rfl, rfl, rfl, rfl, rfl, trivial⟩ ?_
            rintro ⟨j, b⟩ ⟨hj, hbb, hsj⟩
            dsimp only [List.cons_append, List.nil_append]
            refine cj_seq ?_
            refine cj_regionG (gj_step (y_lss rfl rfl) rfl rfl rfl (gj_nil ?_))
            refine ej_th (cj_seq ?_)
            refine cj_cond rfl (fun h101 => ?_) (fun h101 => ?_)
            · have h101b := h101
              try simp only [sxb] at h101
              have hpj : ps[((j : Nat) : Int).toNat]? = some (ps.getD j 0) := by rw [show ((j : Nat) : Int).toNat = j by omega, List.getD_eq_getElem?_getD, List.getElem?_eq_getElem (by omega)]; rfl
              have hpjb := hpv _ (getD_mem (l := ps) (d := 0) (by omega : j < ps.length))
              rw [hrm, bst_s (by omega)] at hsj
              refine cj_skip (ej_th (cj_seq (cj_block (cj_seq ?_))))
              refine cj_regionG (gj_step (y_move rfl) rfl rfl rfl (gj_step (y_ixR (reads_sl) Try.underlying43 Try.sizeOf3 rfl rfl (⟨by omega, by omega⟩)) rfl rfl rfl (gj_step (y_ld0 (reads_sl) Try.isAgg3 rfl ((hvx j (by omega)).1) rfl) rfl rfl rfl (gj_step (y_assign rfl) rfl rfl rfl (gj_step (y_assign rfl) rfl rfl rfl (gj_nil ?_))))))
              refine ej_th ?_
              refine cj_regionG ?_
              refine gj_step (y_move rfl) rfl rfl rfl (gj_step (y_move rfl) rfl rfl rfl (gj_step (y_fa fa62_1 rfl) rfl rfl rfl (gj_step (y_load1 Try.isAgg43 rfl rfl) rfl rfl rfl (gj_step (y_move rfl) rfl rfl rfl (gj_step (y_ixR (reads_sl) Try.underlying43 Try.sizeOf3 rfl rfl (⟨by omega, by omega⟩)) rfl rfl rfl (gj_step (y_ld0 (reads_sl) Try.isAgg3 rfl (hpj) rfl) rfl rfl rfl (gj_step (y_sub rfl rfl (by have := (hvx j (by omega)).2; omega)) rfl rfl rfl (?_))))))))
              refine gj_step (y_call Try.call55 rfl (fun w hp => k_largest _ _ w)) rfl rfl rfl ?_
              refine gj_step (y_assign rfl) rfl rfl rfl (?_)
              refine gj_nil ?_
              refine ej_blk (ej_th ?_)
              refine cj_regionG (gj_step (y_add rfl rfl (by omega)) rfl rfl rfl (gj_step (y_move rfl) rfl rfl rfl (gj_nil ?_)))
              have hvj := (hvx j (by omega)).2
              exact ej_nx (j + 1, max b (vv (rowsV vs) i j - ps.getD j 0)) (by simp only; omega) ⟨by first | omega | (simp only; omega), by first | omega | (simp only; omega), by rw [hrm]; exact hsj⟩ ⟨rfl, rfl, rfl, rfl, rfl, rfl, rfl, rfl, rfl, trivial⟩
            · have h101b := h101
              try simp only [sxb] at h101
              rw [show r.l.length - j = 0 by omega, bst] at hsj
              have hbl := bst_le (rowsV vs) ps i (gainF (rowsV vs) ps i (to.getD i 0)) r.l.length 0 0
              rw [← hsj, hrm] at hbl
              refine cj_exit (ej_then_exit (ej_then_exit (ej_blk_hit (ej_th (cj_seq ?_)))))
              refine cj_regionG (gj_step (y_move rfl) rfl rfl rfl (gj_step (y_move rfl) rfl rfl rfl (gj_step (y_lss rfl rfl) rfl rfl rfl (gj_nil ?_))))
              refine ej_th ?_
              refine cj_cond rfl (fun h117 => ?_) (fun h117 => ?_)
              · have h117b := h117
                try simp only [sxb] at h117
                have hf2 : f2 res.length (rowsV vs) ps to i = false := by rw [f2, ← hbl, decide_eq_false (by omega)]
                refine cj_seq ?_
                refine cj_regionG (gj_step (y_assign rfl) rfl rfl rfl (gj_step (y_assign rfl) rfl rfl rfl (gj_nil ?_)))
                refine ej_th (cj_ret (ej_blk_ret (ej_then_ret (ej_then_ret (ej_blk_ret (ej_then_ret ?_))))))
                refine ej_ret2 rfl Try.results44 rfl rfl (fun w' hp => ⟨?_, hp.below⟩)
                rw [e1, e2, fairB, rowsV_len, ← hsi, hf2]; simp
              · have h117b := h117
                try simp only [sxb] at h117
                have hf2 : f2 res.length (rowsV vs) ps to i = true := by rw [f2, ← hbl, decide_eq_true (by omega)]
                refine cj_skip (ej_blk (ej_th ?_))
                refine cj_regionG (gj_step (y_add rfl rfl (by omega)) rfl rfl rfl (gj_step (y_move rfl) rfl rfl rfl (gj_nil ?_)))
                exact ej_nx (i + 1) (by omega) ⟨by omega, by rw [← hsi, hf2, Bool.true_and]⟩ ⟨rfl, rfl, rfl, rfl, trivial⟩
        · have h77b := h77
          try simp only [sxb] at h77
          rw [show vs.length - i = 0 by omega, allN] at hsi
          refine cj_exit (ej_then_exit (ej_then_exit (ej_blk_hit (ej_th (cj_seq ?_)))))
          refine cj_regionG (gj_step (y_assign rfl) rfl rfl rfl (gj_step (y_assign rfl) rfl rfl rfl (gj_nil ?_)))
          refine ej_th (cj_ret ?_)
          refine ej_ret2 rfl Try.results44 rfl rfl (fun w' hp => ⟨?_, hp.below⟩)
          rw [e1, e2, fairB, rowsV_len, ← hsi, ← hsk]; rfl

end Go.Proofs.Ytehmifpofpifkaa
