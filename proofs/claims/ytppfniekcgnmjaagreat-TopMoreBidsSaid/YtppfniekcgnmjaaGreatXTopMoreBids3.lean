/- Texts of ours, joined: 1 of them. Conditions: none. -/
import Derived.Test.YtppfniekcgnmjaaGreatXTopMoreBids2
namespace Go.Proofs.YtppfniekcgnmjaaGreat.To
open Go.Sx Go.RowKit Um
set_option maxRecDepth 20000
set_option maxHeartbeats 4000000 in
theorem k_TopMoreBids (st rv : Int) (lad : List Am.RiseV) (Al : Option Addr) (cl : Nat) (ps : List Pu.PartV) (Ap : Option Addr) (cp : Nat) (bs : List Am.BidV) (Ab : Option Addr) (cb : Nat) (x : Am.BidV) (w : World) (hlad : Rd w 2 Au.encRi Al lad) (hps : Rd w 3 Pu.encPa Ap ps) (hcap : ps.length ≤ cp) (hgp : ∀ p ∈ ps, Pu.GoodP w p) (hbs : Rd w 3 Au.encBi Ab bs) (hb24 : bs.length * 24 ≤ 140737488351232) : Calls Tryz.prog 5 #[.agg #[.int .i64 st, .int .i64 rv, .slice Al lad.length cl, .slice Ap ps.length cp, .slice Ab bs.length cb], .agg #[.int .i64 x.who, .int .i64 x.way, .int .i64 x.most]] w (fun e w' => e = .returned (.bool true) ∧ Grow w w') := by
  have hlb := hbs.len
  refine enter_pure (args := [.agg #[.int .i64 st, .int .i64 rv, .slice Al lad.length cl, .slice Ap ps.length cp, .slice Ab bs.length cb], .agg #[.int .i64 x.who, .int .i64 x.way, .int .i64 x.most]]) [sl (fun b => b < w.heap.size) 2 Au.encRi Al lad, sl (fun b => b < w.heap.size) 3 Pu.encPa Ap ps, sl (fun b => b < w.heap.size) 3 Au.encBi Ab bs] Tryz.func5 rfl (by rw [Tryz.ntmps5]; simp) (fun g hg => by simp at hg; rcases hg with rfl | rfl | rfl; exact ⟨hlad, fun _ h => h⟩; exact ⟨hps, fun _ h => h⟩; exact ⟨hbs, fun _ h => h⟩) ?_
  refine cj_seq (cj_region ?_)
  refine oj_box rfl rfl rfl (fun b2 => ?_)
  refine oj_box rfl rfl rfl (fun b3 => ?_)
  refine oj_step (y_assign rfl) rfl rfl rfl ?_
  refine oj_nil ?_
  refine ej_th (cj_seq (cj_region ?_))
  refine oj_step (y_fa0 fa65_0 rfl) rfl rfl rfl ?_
  refine oj_step (y_loadN Tryz.isAgg62 Tryz.sizeOf62 rfl) rfl rfl rfl ?_
  refine oj_step (y_fa fa65_2 rfl) rfl rfl rfl ?_
  refine oj_step (y_load1 Tryz.isAgg63 rfl rfl) rfl rfl rfl ?_
  refine oj_step (y_call Tryz.call19 rfl (fun w hp => Au.k_Sell st rv lad Al cl bs Ab cb w hp.rd hp.rd)) rfl rfl rfl ?_
  refine oj_step (y_move rfl) rfl rfl rfl ?_
  refine oj_step (y_extract rfl rfl) rfl rfl rfl ?_
  refine oj_step (y_extract rfl rfl) rfl rfl rfl ?_
  refine oj_alloc Tryz.zeroValue69 rfl rfl (fun b5 => ?_)
  refine oj_store rfl rfl rfl rfl Tryz.sizeOf69 rfl ?_
  refine oj_step (y_assign rfl) rfl rfl rfl ?_
  refine oj_nil ?_
  refine ej_th ?_
  refine cj_cuti (X := Nat) [(2, _), (4, _), (5, _), (6, _)] ⟨rfl, rfl, rfl, rfl, trivial⟩ (fun b7 => True) (fun b7 => [(7, .pointer (some ⟨b7, 0, none⟩)), (8, .int .i64 (Au.SellE st rv lad (bs ++ [x])))]) (fun b7 => [ownB b7 (cellsB 69 [.int .i64 (Au.SellV st rv lad (bs ++ [x])).winner, .int .i64 (Au.SellV st rv lad (bs ++ [x])).price]), ownB b5 (cellsB 69 [.int .i64 (Au.SellV st rv lad bs).winner, .int .i64 (Au.SellV st rv lad bs).price]), ownB b3 (cellsB 67 [.int .i64 x.who, .int .i64 x.way, .int .i64 x.most]), ownB b2 (cellsB 65 [.int .i64 st, .int .i64 rv, .slice Al lad.length cl, .slice Ap ps.length cp, .slice Ab bs.length cb])]) (fun b7 => [sl (fun b => b < w.heap.size) 2 Au.encRi Al lad, sl (fun b => b < w.heap.size) 3 Pu.encPa Ap ps, sl (fun b => b < w.heap.size) 3 Au.encBi Ab bs]) ?_ ?_
  · refine cj_plan 16 (by kernel_rfl) (by kernel_rfl) ?_
    refine pl_y 0 rfl (y_fa0 fa65_0 rfl) rfl rfl rfl rfl (by kernel_rfl) ?_
    refine pl_y 1 rfl (y_loadN Tryz.isAgg62 Tryz.sizeOf62 rfl) rfl rfl rfl rfl (by kernel_rfl) ?_
    refine pl_y 3 rfl (y_fa fa65_2 rfl) rfl rfl rfl rfl (by kernel_rfl) ?_
    refine pl_y 4 rfl (y_load1 Tryz.isAgg63 rfl rfl) rfl rfl rfl rfl (by kernel_rfl) ?_
    refine pl_y 6 rfl (y_loadN Tryz.isAgg67 Tryz.sizeOf67 rfl) rfl rfl rfl rfl (by kernel_rfl) ?_
    refine pl_w3 2 7 13 (by kernel_rfl) rfl rfl (pl_fire rfl rfl rfl (by kernel_rfl) ?_) (pl_fire rfl rfl rfl (by kernel_rfl) ?_) (pl_fire rfl rfl rfl (by kernel_rfl) ?_)
    · refine oj_buildSlice (cs := []) [] Tryz.underlying63 Tryz.sizeOf67 Tryz.zeroValue67 rfl rfl (by kernel_rfl) (by kernel_rfl) rfl (fun b24 => ?_)
      refine oj_litOw (b := b24) (e := 67) (c := 0) (sz := 3) (enc := Au.encBi) [] rfl rfl rfl (by unfold maxLen; simp) ?_
      refine oj_nil ?_
      refine ej_pl (lt_y (y_loadN Tryz.isAgg67 Tryz.sizeOf67 rfl) rfl (lt_y (y_load1 Tryz.isAgg63 rfl rfl) rfl (lt_y (y_fa fa65_2 rfl) rfl (lt_y (y_loadN Tryz.isAgg62 Tryz.sizeOf62 rfl) rfl (lt_y (y_fa0 fa65_0 rfl) rfl (lt_nil)))))) ?_
      refine pl_w3 5 7 13 (by kernel_rfl) rfl rfl (pl_fire rfl rfl rfl (by kernel_rfl) ?_) (pl_fire rfl rfl rfl (by kernel_rfl) ?_) (pl_fire rfl rfl rfl (by kernel_rfl) ?_)
      · refine oj_append (xs := ([] : List Am.BidV)) (c := 0) el63 (fun _ => rfl) Au.encBi_one rfl rfl rfl (reads_sl) (by unfold maxLen; simp only [List.length_nil, List.length_append, List.length_cons]; omega) (by simp only [List.length_nil, List.length_append, List.length_cons]; omega) rfl (fun A27 c27 => ?_)
        refine oj_nil ?_
        refine ej_pl (lt_y (y_loadN Tryz.isAgg67 Tryz.sizeOf67 rfl) rfl (lt_w (by kernel_rfl) (lt_y (y_fa fa65_2 rfl) rfl (lt_y (y_loadN Tryz.isAgg62 Tryz.sizeOf62 rfl) rfl (lt_y (y_fa0 fa65_0 rfl) rfl (lt_nil)))))) ?_
        refine pl_w2 7 13 (by kernel_rfl) rfl rfl (pl_fire rfl rfl rfl (by kernel_rfl) ?_) (pl_fire rfl rfl rfl (by kernel_rfl) ?_)
        · refine oj_buildSlice (cs := [.int .i64 x.who, .int .i64 x.way, .int .i64 x.most]) [.int .i64 0, .int .i64 0, .int .i64 0] Tryz.underlying63 Tryz.sizeOf67 Tryz.zeroValue67 rfl rfl (by kernel_rfl) (by kernel_rfl) rfl (fun b29 => ?_)
          refine oj_nil ?_
          refine ej_pl (lt_w (by kernel_rfl) (lt_y (y_load1 Tryz.isAgg63 rfl rfl) rfl (lt_y (y_fa fa65_2 rfl) rfl (lt_y (y_loadN Tryz.isAgg62 Tryz.sizeOf62 rfl) rfl (lt_y (y_fa0 fa65_0 rfl) rfl (lt_nil)))))) ?_
          refine pl_w2 8 13 (by kernel_rfl) rfl rfl (pl_fire rfl rfl rfl (by kernel_rfl) ?_) (pl_fire rfl rfl rfl (by kernel_rfl) ?_)
          · refine oj_append  el63 (fun _ => rfl) Au.encBi_one rfl rfl rfl (reads_lit [x] (fun _ => rfl) rfl) (by unfold maxLen; simp only [List.length_nil, List.length_append, List.length_cons]; omega) (by simp only [List.length_nil, List.length_append, List.length_cons]; omega) rfl (fun A30 c30 => ?_)
            refine oj_nil ?_
            refine ej_pl (lt_y (y_loadN Tryz.isAgg67 Tryz.sizeOf67 rfl) rfl (lt_y (y_load1 Tryz.isAgg63 rfl rfl) rfl (lt_y (y_fa fa65_2 rfl) rfl (lt_y (y_loadN Tryz.isAgg62 Tryz.sizeOf62 rfl) rfl (lt_y (y_fa0 fa65_0 rfl) rfl (lt_nil)))))) ?_
            refine pl_y 9 rfl (y_call Tryz.call19 rfl (fun w hp => Au.k_Sell st rv lad Al cl ((([] : List Am.BidV) ++ bs) ++ [x]) A30 c30 w hp.rd (hp.rdO (fun _ => rfl) (by unfold maxLen; simp; omega)))) rfl rfl rfl rfl (by kernel_rfl) ?_
            refine pl_y 10 rfl (y_move rfl) rfl rfl rfl rfl (by kernel_rfl) ?_
            refine pl_y 11 rfl (y_extract rfl rfl) rfl rfl rfl rfl (by kernel_rfl) ?_
            refine pl_y 12 rfl (y_extract rfl rfl) rfl rfl rfl rfl (by kernel_rfl) ?_
            refine pl_w1 13 (by kernel_rfl) rfl rfl (pl_fire rfl rfl rfl (by kernel_rfl) ?_)
            refine oj_alloc Tryz.zeroValue69 rfl rfl (fun b7 => ?_)
            refine oj_nil ?_
            refine ej_pl (lt_y (y_extract rfl rfl) rfl (lt_y (y_extract rfl rfl) rfl (lt_y (y_move rfl) rfl (lt_y (y_call Tryz.call19 rfl (fun w hp => Au.k_Sell st rv lad Al cl ((([] : List Am.BidV) ++ bs) ++ [x]) A30 c30 w hp.rd (hp.rdO (fun _ => rfl) (by unfold maxLen; simp; omega)))) rfl (lt_y (y_loadN Tryz.isAgg67 Tryz.sizeOf67 rfl) rfl (lt_y (y_load1 Tryz.isAgg63 rfl rfl) rfl (lt_y (y_fa fa65_2 rfl) rfl (lt_y (y_loadN Tryz.isAgg62 Tryz.sizeOf62 rfl) rfl (lt_y (y_fa0 fa65_0 rfl) rfl (lt_nil)))))))))) ?_
            refine pl_w1 14 (by kernel_rfl) rfl rfl (pl_fire rfl rfl rfl (by kernel_rfl) ?_)
            refine oj_store rfl rfl rfl rfl Tryz.sizeOf69 rfl ?_
            refine oj_nil ?_
            refine ej_pl (lt_y (y_extract rfl rfl) rfl (lt_w (by kernel_rfl) (lt_w (by kernel_rfl) (lt_w (by kernel_rfl) (lt_w (by kernel_rfl) (lt_w (by kernel_rfl) (lt_w (by kernel_rfl) (lt_w (by kernel_rfl) (lt_w (by kernel_rfl) (lt_nil)))))))))) ?_
            refine pl_y 15 rfl (y_assign rfl) rfl rfl rfl rfl (by kernel_rfl) ?_
            refine pl_end (by kernel_rfl) ?_
            refine ej_takes [ownB b7 (cellsB 69 [.int .i64 (Au.SellV st rv lad ((([] : List Am.BidV) ++ bs) ++ [x])).winner, .int .i64 (Au.SellV st rv lad ((([] : List Am.BidV) ++ bs) ++ [x])).price]), ownB b5 (cellsB 69 [.int .i64 (Au.SellV st rv lad bs).winner, .int .i64 (Au.SellV st rv lad bs).price]), ownB b3 (cellsB 67 [.int .i64 x.who, .int .i64 x.way, .int .i64 x.most]), ownB b2 (cellsB 65 [.int .i64 st, .int .i64 rv, .slice Al lad.length cl, .slice Ap ps.length cp, .slice Ab bs.length cb])] ?_
            refine ej_eqO [ownB b7 (cellsB 69 [.int .i64 (Au.SellV st rv lad (bs ++ [x])).winner, .int .i64 (Au.SellV st rv lad (bs ++ [x])).price]), ownB b5 (cellsB 69 [.int .i64 (Au.SellV st rv lad bs).winner, .int .i64 (Au.SellV st rv lad bs).price]), ownB b3 (cellsB 67 [.int .i64 x.who, .int .i64 x.way, .int .i64 x.most]), ownB b2 (cellsB 65 [.int .i64 st, .int .i64 rv, .slice Al lad.length cl, .slice Ap ps.length cp, .slice Ab bs.length cb])] rfl ?_
            exact ej_ct b7 trivial ⟨rfl, rfl, rfl, rfl, rfl, rfl, trivial⟩
          · refine oj_alloc Tryz.zeroValue69 rfl rfl (fun b7 => ?_)
            refine oj_nil ?_
            refine ej_pl (lt_y (y_loadN Tryz.isAgg67 Tryz.sizeOf67 rfl) rfl (lt_y (y_load1 Tryz.isAgg63 rfl rfl) rfl (lt_y (y_fa fa65_2 rfl) rfl (lt_y (y_loadN Tryz.isAgg62 Tryz.sizeOf62 rfl) rfl (lt_y (y_fa0 fa65_0 rfl) rfl (lt_nil)))))) ?_
            refine pl_w1 8 (by kernel_rfl) rfl rfl (pl_fire rfl rfl rfl (by kernel_rfl) ?_)
            refine oj_append  el63 (fun _ => rfl) Au.encBi_one rfl rfl rfl (reads_lit [x] (fun _ => rfl) rfl) (by unfold maxLen; simp only [List.length_nil, List.length_append, List.length_cons]; omega) (by simp only [List.length_nil, List.length_append, List.length_cons]; omega) rfl (fun A30 c30 => ?_)
            refine oj_nil ?_
            refine ej_pl (lt_y (y_loadN Tryz.isAgg67 Tryz.sizeOf67 rfl) rfl (lt_y (y_load1 Tryz.isAgg63 rfl rfl) rfl (lt_y (y_fa fa65_2 rfl) rfl (lt_y (y_loadN Tryz.isAgg62 Tryz.sizeOf62 rfl) rfl (lt_y (y_fa0 fa65_0 rfl) rfl (lt_nil)))))) ?_
            refine pl_y 9 rfl (y_call Tryz.call19 rfl (fun w hp => Au.k_Sell st rv lad Al cl ((([] : List Am.BidV) ++ bs) ++ [x]) A30 c30 w hp.rd (hp.rdO (fun _ => rfl) (by unfold maxLen; simp; omega)))) rfl rfl rfl rfl (by kernel_rfl) ?_
            refine pl_y 10 rfl (y_move rfl) rfl rfl rfl rfl (by kernel_rfl) ?_
            refine pl_y 11 rfl (y_extract rfl rfl) rfl rfl rfl rfl (by kernel_rfl) ?_
            refine pl_y 12 rfl (y_extract rfl rfl) rfl rfl rfl rfl (by kernel_rfl) ?_
            refine pl_w1 14 (by kernel_rfl) rfl rfl (pl_fire rfl rfl rfl (by kernel_rfl) ?_)
            refine oj_store rfl rfl rfl rfl Tryz.sizeOf69 rfl ?_
            refine oj_nil ?_
            refine ej_pl (lt_y (y_extract rfl rfl) rfl (lt_w (by kernel_rfl) (lt_w (by kernel_rfl) (lt_w (by kernel_rfl) (lt_w (by kernel_rfl) (lt_w (by kernel_rfl) (lt_w (by kernel_rfl) (lt_w (by kernel_rfl) (lt_w (by kernel_rfl) (lt_nil)))))))))) ?_
            refine pl_y 15 rfl (y_assign rfl) rfl rfl rfl rfl (by kernel_rfl) ?_
            refine pl_end (by kernel_rfl) ?_
            refine ej_takes [ownB b7 (cellsB 69 [.int .i64 (Au.SellV st rv lad ((([] : List Am.BidV) ++ bs) ++ [x])).winner, .int .i64 (Au.SellV st rv lad ((([] : List Am.BidV) ++ bs) ++ [x])).price]), ownB b5 (cellsB 69 [.int .i64 (Au.SellV st rv lad bs).winner, .int .i64 (Au.SellV st rv lad bs).price]), ownB b3 (cellsB 67 [.int .i64 x.who, .int .i64 x.way, .int .i64 x.most]), ownB b2 (cellsB 65 [.int .i64 st, .int .i64 rv, .slice Al lad.length cl, .slice Ap ps.length cp, .slice Ab bs.length cb])] ?_
            refine ej_eqO [ownB b7 (cellsB 69 [.int .i64 (Au.SellV st rv lad (bs ++ [x])).winner, .int .i64 (Au.SellV st rv lad (bs ++ [x])).price]), ownB b5 (cellsB 69 [.int .i64 (Au.SellV st rv lad bs).winner, .int .i64 (Au.SellV st rv lad bs).price]), ownB b3 (cellsB 67 [.int .i64 x.who, .int .i64 x.way, .int .i64 x.most]), ownB b2 (cellsB 65 [.int .i64 st, .int .i64 rv, .slice Al lad.length cl, .slice Ap ps.length cp, .slice Ab bs.length cb])] rfl ?_
            exact ej_ct b7 trivial ⟨rfl, rfl, rfl, rfl, rfl, rfl, trivial⟩
        · refine oj_alloc Tryz.zeroValue69 rfl rfl (fun b7 => ?_)
          refine oj_nil ?_
          refine ej_pl (lt_y (y_loadN Tryz.isAgg67 Tryz.sizeOf67 rfl) rfl (lt_y (y_load1 Tryz.isAgg63 rfl rfl) rfl (lt_y (y_fa fa65_2 rfl) rfl (lt_y (y_loadN Tryz.isAgg62 Tryz.sizeOf62 rfl) rfl (lt_y (y_fa0 fa65_0 rfl) rfl (lt_nil)))))) ?_
          refine pl_w1 7 (by kernel_rfl) rfl rfl (pl_fire rfl rfl rfl (by kernel_rfl) ?_)
          refine oj_buildSlice (cs := [.int .i64 x.who, .int .i64 x.way, .int .i64 x.most]) [.int .i64 0, .int .i64 0, .int .i64 0] Tryz.underlying63 Tryz.sizeOf67 Tryz.zeroValue67 rfl rfl (by kernel_rfl) (by kernel_rfl) rfl (fun b29 => ?_)
          refine oj_nil ?_
          refine ej_pl (lt_w (by kernel_rfl) (lt_y (y_load1 Tryz.isAgg63 rfl rfl) rfl (lt_y (y_fa fa65_2 rfl) rfl (lt_y (y_loadN Tryz.isAgg62 Tryz.sizeOf62 rfl) rfl (lt_y (y_fa0 fa65_0 rfl) rfl (lt_nil)))))) ?_
          refine pl_w1 8 (by kernel_rfl) rfl rfl (pl_fire rfl rfl rfl (by kernel_rfl) ?_)
          refine oj_append  el63 (fun _ => rfl) Au.encBi_one rfl rfl rfl (reads_lit [x] (fun _ => rfl) rfl) (by unfold maxLen; simp only [List.length_nil, List.length_append, List.length_cons]; omega) (by simp only [List.length_nil, List.length_append, List.length_cons]; omega) rfl (fun A30 c30 => ?_)
          refine oj_nil ?_
          refine ej_pl (lt_y (y_loadN Tryz.isAgg67 Tryz.sizeOf67 rfl) rfl (lt_y (y_load1 Tryz.isAgg63 rfl rfl) rfl (lt_y (y_fa fa65_2 rfl) rfl (lt_y (y_loadN Tryz.isAgg62 Tryz.sizeOf62 rfl) rfl (lt_y (y_fa0 fa65_0 rfl) rfl (lt_nil)))))) ?_
          refine pl_y 9 rfl (y_call Tryz.call19 rfl (fun w hp => Au.k_Sell st rv lad Al cl ((([] : List Am.BidV) ++ bs) ++ [x]) A30 c30 w hp.rd (hp.rdO (fun _ => rfl) (by unfold maxLen; simp; omega)))) rfl rfl rfl rfl (by kernel_rfl) ?_
          refine pl_y 10 rfl (y_move rfl) rfl rfl rfl rfl (by kernel_rfl) ?_
          refine pl_y 11 rfl (y_extract rfl rfl) rfl rfl rfl rfl (by kernel_rfl) ?_
          refine pl_y 12 rfl (y_extract rfl rfl) rfl rfl rfl rfl (by kernel_rfl) ?_
          refine pl_w1 14 (by kernel_rfl) rfl rfl (pl_fire rfl rfl rfl (by kernel_rfl) ?_)
          refine oj_store rfl rfl rfl rfl Tryz.sizeOf69 rfl ?_
          refine oj_nil ?_
          refine ej_pl (lt_y (y_extract rfl rfl) rfl (lt_w (by kernel_rfl) (lt_w (by kernel_rfl) (lt_w (by kernel_rfl) (lt_w (by kernel_rfl) (lt_w (by kernel_rfl) (lt_w (by kernel_rfl) (lt_w (by kernel_rfl) (lt_w (by kernel_rfl) (lt_nil)))))))))) ?_
          refine pl_y 15 rfl (y_assign rfl) rfl rfl rfl rfl (by kernel_rfl) ?_
          refine pl_end (by kernel_rfl) ?_
          refine ej_takes [ownB b7 (cellsB 69 [.int .i64 (Au.SellV st rv lad ((([] : List Am.BidV) ++ bs) ++ [x])).winner, .int .i64 (Au.SellV st rv lad ((([] : List Am.BidV) ++ bs) ++ [x])).price]), ownB b5 (cellsB 69 [.int .i64 (Au.SellV st rv lad bs).winner, .int .i64 (Au.SellV st rv lad bs).price]), ownB b3 (cellsB 67 [.int .i64 x.who, .int .i64 x.way, .int .i64 x.most]), ownB b2 (cellsB 65 [.int .i64 st, .int .i64 rv, .slice Al lad.length cl, .slice Ap ps.length cp, .slice Ab bs.length cb])] ?_
          refine ej_eqO [ownB b7 (cellsB 69 [.int .i64 (Au.SellV st rv lad (bs ++ [x])).winner, .int .i64 (Au.SellV st rv lad (bs ++ [x])).price]), ownB b5 (cellsB 69 [.int .i64 (Au.SellV st rv lad bs).winner, .int .i64 (Au.SellV st rv lad bs).price]), ownB b3 (cellsB 67 [.int .i64 x.who, .int .i64 x.way, .int .i64 x.most]), ownB b2 (cellsB 65 [.int .i64 st, .int .i64 rv, .slice Al lad.length cl, .slice Ap ps.length cp, .slice Ab bs.length cb])] rfl ?_
          exact ej_ct b7 trivial ⟨rfl, rfl, rfl, rfl, rfl, rfl, trivial⟩
      · refine oj_buildSlice (cs := [.int .i64 x.who, .int .i64 x.way, .int .i64 x.most]) [.int .i64 0, .int .i64 0, .int .i64 0] Tryz.underlying63 Tryz.sizeOf67 Tryz.zeroValue67 rfl rfl (by kernel_rfl) (by kernel_rfl) rfl (fun b29 => ?_)
        refine oj_nil ?_
        refine ej_pl (lt_w (by kernel_rfl) (lt_y (y_load1 Tryz.isAgg63 rfl rfl) rfl (lt_y (y_fa fa65_2 rfl) rfl (lt_y (y_loadN Tryz.isAgg62 Tryz.sizeOf62 rfl) rfl (lt_y (y_fa0 fa65_0 rfl) rfl (lt_nil)))))) ?_
        refine pl_w2 5 13 (by kernel_rfl) rfl rfl (pl_fire rfl rfl rfl (by kernel_rfl) ?_) (pl_fire rfl rfl rfl (by kernel_rfl) ?_)
        · refine oj_append (xs := ([] : List Am.BidV)) (c := 0) el63 (fun _ => rfl) Au.encBi_one rfl rfl rfl (reads_sl) (by unfold maxLen; simp only [List.length_nil, List.length_append, List.length_cons]; omega) (by simp only [List.length_nil, List.length_append, List.length_cons]; omega) rfl (fun A27 c27 => ?_)
          refine oj_nil ?_
          refine ej_pl (lt_y (y_loadN Tryz.isAgg67 Tryz.sizeOf67 rfl) rfl (lt_w (by kernel_rfl) (lt_y (y_fa fa65_2 rfl) rfl (lt_y (y_loadN Tryz.isAgg62 Tryz.sizeOf62 rfl) rfl (lt_y (y_fa0 fa65_0 rfl) rfl (lt_nil)))))) ?_
          refine pl_w2 8 13 (by kernel_rfl) rfl rfl (pl_fire rfl rfl rfl (by kernel_rfl) ?_) (pl_fire rfl rfl rfl (by kernel_rfl) ?_)
          · refine oj_append  el63 (fun _ => rfl) Au.encBi_one rfl rfl rfl (reads_lit [x] (fun _ => rfl) rfl) (by unfold maxLen; simp only [List.length_nil, List.length_append, List.length_cons]; omega) (by simp only [List.length_nil, List.length_append, List.length_cons]; omega) rfl (fun A30 c30 => ?_)
            refine oj_nil ?_
            refine ej_pl (lt_y (y_loadN Tryz.isAgg67 Tryz.sizeOf67 rfl) rfl (lt_y (y_load1 Tryz.isAgg63 rfl rfl) rfl (lt_y (y_fa fa65_2 rfl) rfl (lt_y (y_loadN Tryz.isAgg62 Tryz.sizeOf62 rfl) rfl (lt_y (y_fa0 fa65_0 rfl) rfl (lt_nil)))))) ?_
            refine pl_y 9 rfl (y_call Tryz.call19 rfl (fun w hp => Au.k_Sell st rv lad Al cl ((([] : List Am.BidV) ++ bs) ++ [x]) A30 c30 w hp.rd (hp.rdO (fun _ => rfl) (by unfold maxLen; simp; omega)))) rfl rfl rfl rfl (by kernel_rfl) ?_
            refine pl_y 10 rfl (y_move rfl) rfl rfl rfl rfl (by kernel_rfl) ?_
            refine pl_y 11 rfl (y_extract rfl rfl) rfl rfl rfl rfl (by kernel_rfl) ?_
            refine pl_y 12 rfl (y_extract rfl rfl) rfl rfl rfl rfl (by kernel_rfl) ?_
            refine pl_w1 13 (by kernel_rfl) rfl rfl (pl_fire rfl rfl rfl (by kernel_rfl) ?_)
            refine oj_alloc Tryz.zeroValue69 rfl rfl (fun b7 => ?_)
            refine oj_nil ?_
            refine ej_pl (lt_y (y_extract rfl rfl) rfl (lt_y (y_extract rfl rfl) rfl (lt_y (y_move rfl) rfl (lt_y (y_call Tryz.call19 rfl (fun w hp => Au.k_Sell st rv lad Al cl ((([] : List Am.BidV) ++ bs) ++ [x]) A30 c30 w hp.rd (hp.rdO (fun _ => rfl) (by unfold maxLen; simp; omega)))) rfl (lt_y (y_loadN Tryz.isAgg67 Tryz.sizeOf67 rfl) rfl (lt_y (y_load1 Tryz.isAgg63 rfl rfl) rfl (lt_y (y_fa fa65_2 rfl) rfl (lt_y (y_loadN Tryz.isAgg62 Tryz.sizeOf62 rfl) rfl (lt_y (y_fa0 fa65_0 rfl) rfl (lt_nil)))))))))) ?_
            refine pl_w1 14 (by kernel_rfl) rfl rfl (pl_fire rfl rfl rfl (by kernel_rfl) ?_)
            refine oj_store rfl rfl rfl rfl Tryz.sizeOf69 rfl ?_
            refine oj_nil ?_
            refine ej_pl (lt_y (y_extract rfl rfl) rfl (lt_w (by kernel_rfl) (lt_w (by kernel_rfl) (lt_w (by kernel_rfl) (lt_w (by kernel_rfl) (lt_w (by kernel_rfl) (lt_w (by kernel_rfl) (lt_w (by kernel_rfl) (lt_w (by kernel_rfl) (lt_nil)))))))))) ?_
            refine pl_y 15 rfl (y_assign rfl) rfl rfl rfl rfl (by kernel_rfl) ?_
            refine pl_end (by kernel_rfl) ?_
            refine ej_takes [ownB b7 (cellsB 69 [.int .i64 (Au.SellV st rv lad ((([] : List Am.BidV) ++ bs) ++ [x])).winner, .int .i64 (Au.SellV st rv lad ((([] : List Am.BidV) ++ bs) ++ [x])).price]), ownB b5 (cellsB 69 [.int .i64 (Au.SellV st rv lad bs).winner, .int .i64 (Au.SellV st rv lad bs).price]), ownB b3 (cellsB 67 [.int .i64 x.who, .int .i64 x.way, .int .i64 x.most]), ownB b2 (cellsB 65 [.int .i64 st, .int .i64 rv, .slice Al lad.length cl, .slice Ap ps.length cp, .slice Ab bs.length cb])] ?_
            refine ej_eqO [ownB b7 (cellsB 69 [.int .i64 (Au.SellV st rv lad (bs ++ [x])).winner, .int .i64 (Au.SellV st rv lad (bs ++ [x])).price]), ownB b5 (cellsB 69 [.int .i64 (Au.SellV st rv lad bs).winner, .int .i64 (Au.SellV st rv lad bs).price]), ownB b3 (cellsB 67 [.int .i64 x.who, .int .i64 x.way, .int .i64 x.most]), ownB b2 (cellsB 65 [.int .i64 st, .int .i64 rv, .slice Al lad.length cl, .slice Ap ps.length cp, .slice Ab bs.length cb])] rfl ?_
            exact ej_ct b7 trivial ⟨rfl, rfl, rfl, rfl, rfl, rfl, trivial⟩
          · refine oj_alloc Tryz.zeroValue69 rfl rfl (fun b7 => ?_)
            refine oj_nil ?_
            refine ej_pl (lt_y (y_loadN Tryz.isAgg67 Tryz.sizeOf67 rfl) rfl (lt_y (y_load1 Tryz.isAgg63 rfl rfl) rfl (lt_y (y_fa fa65_2 rfl) rfl (lt_y (y_loadN Tryz.isAgg62 Tryz.sizeOf62 rfl) rfl (lt_y (y_fa0 fa65_0 rfl) rfl (lt_nil)))))) ?_
            refine pl_w1 8 (by kernel_rfl) rfl rfl (pl_fire rfl rfl rfl (by kernel_rfl) ?_)
            refine oj_append  el63 (fun _ => rfl) Au.encBi_one rfl rfl rfl (reads_lit [x] (fun _ => rfl) rfl) (by unfold maxLen; simp only [List.length_nil, List.length_append, List.length_cons]; omega) (by simp only [List.length_nil, List.length_append, List.length_cons]; omega) rfl (fun A30 c30 => ?_)
            refine oj_nil ?_
            refine ej_pl (lt_y (y_loadN Tryz.isAgg67 Tryz.sizeOf67 rfl) rfl (lt_y (y_load1 Tryz.isAgg63 rfl rfl) rfl (lt_y (y_fa fa65_2 rfl) rfl (lt_y (y_loadN Tryz.isAgg62 Tryz.sizeOf62 rfl) rfl (lt_y (y_fa0 fa65_0 rfl) rfl (lt_nil)))))) ?_
            refine pl_y 9 rfl (y_call Tryz.call19 rfl (fun w hp => Au.k_Sell st rv lad Al cl ((([] : List Am.BidV) ++ bs) ++ [x]) A30 c30 w hp.rd (hp.rdO (fun _ => rfl) (by unfold maxLen; simp; omega)))) rfl rfl rfl rfl (by kernel_rfl) ?_
            refine pl_y 10 rfl (y_move rfl) rfl rfl rfl rfl (by kernel_rfl) ?_
            refine pl_y 11 rfl (y_extract rfl rfl) rfl rfl rfl rfl (by kernel_rfl) ?_
            refine pl_y 12 rfl (y_extract rfl rfl) rfl rfl rfl rfl (by kernel_rfl) ?_
            refine pl_w1 14 (by kernel_rfl) rfl rfl (pl_fire rfl rfl rfl (by kernel_rfl) ?_)
            refine oj_store rfl rfl rfl rfl Tryz.sizeOf69 rfl ?_
            refine oj_nil ?_
            refine ej_pl (lt_y (y_extract rfl rfl) rfl (lt_w (by kernel_rfl) (lt_w (by kernel_rfl) (lt_w (by kernel_rfl) (lt_w (by kernel_rfl) (lt_w (by kernel_rfl) (lt_w (by kernel_rfl) (lt_w (by kernel_rfl) (lt_w (by kernel_rfl) (lt_nil)))))))))) ?_
            refine pl_y 15 rfl (y_assign rfl) rfl rfl rfl rfl (by kernel_rfl) ?_
            refine pl_end (by kernel_rfl) ?_
            refine ej_takes [ownB b7 (cellsB 69 [.int .i64 (Au.SellV st rv lad ((([] : List Am.BidV) ++ bs) ++ [x])).winner, .int .i64 (Au.SellV st rv lad ((([] : List Am.BidV) ++ bs) ++ [x])).price]), ownB b5 (cellsB 69 [.int .i64 (Au.SellV st rv lad bs).winner, .int .i64 (Au.SellV st rv lad bs).price]), ownB b3 (cellsB 67 [.int .i64 x.who, .int .i64 x.way, .int .i64 x.most]), ownB b2 (cellsB 65 [.int .i64 st, .int .i64 rv, .slice Al lad.length cl, .slice Ap ps.length cp, .slice Ab bs.length cb])] ?_
            refine ej_eqO [ownB b7 (cellsB 69 [.int .i64 (Au.SellV st rv lad (bs ++ [x])).winner, .int .i64 (Au.SellV st rv lad (bs ++ [x])).price]), ownB b5 (cellsB 69 [.int .i64 (Au.SellV st rv lad bs).winner, .int .i64 (Au.SellV st rv lad bs).price]), ownB b3 (cellsB 67 [.int .i64 x.who, .int .i64 x.way, .int .i64 x.most]), ownB b2 (cellsB 65 [.int .i64 st, .int .i64 rv, .slice Al lad.length cl, .slice Ap ps.length cp, .slice Ab bs.length cb])] rfl ?_
            exact ej_ct b7 trivial ⟨rfl, rfl, rfl, rfl, rfl, rfl, trivial⟩
        · refine oj_alloc Tryz.zeroValue69 rfl rfl (fun b7 => ?_)
          refine oj_nil ?_
          refine ej_pl (lt_y (y_loadN Tryz.isAgg67 Tryz.sizeOf67 rfl) rfl (lt_y (y_load1 Tryz.isAgg63 rfl rfl) rfl (lt_y (y_fa fa65_2 rfl) rfl (lt_y (y_loadN Tryz.isAgg62 Tryz.sizeOf62 rfl) rfl (lt_y (y_fa0 fa65_0 rfl) rfl (lt_nil)))))) ?_
          refine pl_w1 5 (by kernel_rfl) rfl rfl (pl_fire rfl rfl rfl (by kernel_rfl) ?_)
          refine oj_append (xs := ([] : List Am.BidV)) (c := 0) el63 (fun _ => rfl) Au.encBi_one rfl rfl rfl (reads_sl) (by unfold maxLen; simp only [List.length_nil, List.length_append, List.length_cons]; omega) (by simp only [List.length_nil, List.length_append, List.length_cons]; omega) rfl (fun A27 c27 => ?_)
          refine oj_nil ?_
          refine ej_pl (lt_y (y_loadN Tryz.isAgg67 Tryz.sizeOf67 rfl) rfl (lt_w (by kernel_rfl) (lt_y (y_fa fa65_2 rfl) rfl (lt_y (y_loadN Tryz.isAgg62 Tryz.sizeOf62 rfl) rfl (lt_y (y_fa0 fa65_0 rfl) rfl (lt_nil)))))) ?_
          refine pl_w1 8 (by kernel_rfl) rfl rfl (pl_fire rfl rfl rfl (by kernel_rfl) ?_)
          refine oj_append  el63 (fun _ => rfl) Au.encBi_one rfl rfl rfl (reads_lit [x] (fun _ => rfl) rfl) (by unfold maxLen; simp only [List.length_nil, List.length_append, List.length_cons]; omega) (by simp only [List.length_nil, List.length_append, List.length_cons]; omega) rfl (fun A30 c30 => ?_)
          refine oj_nil ?_
          refine ej_pl (lt_y (y_loadN Tryz.isAgg67 Tryz.sizeOf67 rfl) rfl (lt_y (y_load1 Tryz.isAgg63 rfl rfl) rfl (lt_y (y_fa fa65_2 rfl) rfl (lt_y (y_loadN Tryz.isAgg62 Tryz.sizeOf62 rfl) rfl (lt_y (y_fa0 fa65_0 rfl) rfl (lt_nil)))))) ?_
          refine pl_y 9 rfl (y_call Tryz.call19 rfl (fun w hp => Au.k_Sell st rv lad Al cl ((([] : List Am.BidV) ++ bs) ++ [x]) A30 c30 w hp.rd (hp.rdO (fun _ => rfl) (by unfold maxLen; simp; omega)))) rfl rfl rfl rfl (by kernel_rfl) ?_
          refine pl_y 10 rfl (y_move rfl) rfl rfl rfl rfl (by kernel_rfl) ?_
          refine pl_y 11 rfl (y_extract rfl rfl) rfl rfl rfl rfl (by kernel_rfl) ?_
          refine pl_y 12 rfl (y_extract rfl rfl) rfl rfl rfl rfl (by kernel_rfl) ?_
          refine pl_w1 14 (by kernel_rfl) rfl rfl (pl_fire rfl rfl rfl (by kernel_rfl) ?_)
          refine oj_store rfl rfl rfl rfl Tryz.sizeOf69 rfl ?_
          refine oj_nil ?_
          refine ej_pl (lt_y (y_extract rfl rfl) rfl (lt_w (by kernel_rfl) (lt_w (by kernel_rfl) (lt_w (by kernel_rfl) (lt_w (by kernel_rfl) (lt_w (by kernel_rfl) (lt_w (by kernel_rfl) (lt_w (by kernel_rfl) (lt_w (by kernel_rfl) (lt_nil)))))))))) ?_
          refine pl_y 15 rfl (y_assign rfl) rfl rfl rfl rfl (by kernel_rfl) ?_
          refine pl_end (by kernel_rfl) ?_
          refine ej_takes [ownB b7 (cellsB 69 [.int .i64 (Au.SellV st rv lad ((([] : List Am.BidV) ++ bs) ++ [x])).winner, .int .i64 (Au.SellV st rv lad ((([] : List Am.BidV) ++ bs) ++ [x])).price]), ownB b5 (cellsB 69 [.int .i64 (Au.SellV st rv lad bs).winner, .int .i64 (Au.SellV st rv lad bs).price]), ownB b3 (cellsB 67 [.int .i64 x.who, .int .i64 x.way, .int .i64 x.most]), ownB b2 (cellsB 65 [.int .i64 st, .int .i64 rv, .slice Al lad.length cl, .slice Ap ps.length cp, .slice Ab bs.length cb])] ?_
          refine ej_eqO [ownB b7 (cellsB 69 [.int .i64 (Au.SellV st rv lad (bs ++ [x])).winner, .int .i64 (Au.SellV st rv lad (bs ++ [x])).price]), ownB b5 (cellsB 69 [.int .i64 (Au.SellV st rv lad bs).winner, .int .i64 (Au.SellV st rv lad bs).price]), ownB b3 (cellsB 67 [.int .i64 x.who, .int .i64 x.way, .int .i64 x.most]), ownB b2 (cellsB 65 [.int .i64 st, .int .i64 rv, .slice Al lad.length cl, .slice Ap ps.length cp, .slice Ab bs.length cb])] rfl ?_
          exact ej_ct b7 trivial ⟨rfl, rfl, rfl, rfl, rfl, rfl, trivial⟩
      · refine oj_alloc Tryz.zeroValue69 rfl rfl (fun b7 => ?_)
        refine oj_nil ?_
        refine ej_pl (lt_y (y_loadN Tryz.isAgg67 Tryz.sizeOf67 rfl) rfl (lt_y (y_load1 Tryz.isAgg63 rfl rfl) rfl (lt_y (y_fa fa65_2 rfl) rfl (lt_y (y_loadN Tryz.isAgg62 Tryz.sizeOf62 rfl) rfl (lt_y (y_fa0 fa65_0 rfl) rfl (lt_nil)))))) ?_
        refine pl_w2 5 7 (by kernel_rfl) rfl rfl (pl_fire rfl rfl rfl (by kernel_rfl) ?_) (pl_fire rfl rfl rfl (by kernel_rfl) ?_)
        · refine oj_append (xs := ([] : List Am.BidV)) (c := 0) el63 (fun _ => rfl) Au.encBi_one rfl rfl rfl (reads_sl) (by unfold maxLen; simp only [List.length_nil, List.length_append, List.length_cons]; omega) (by simp only [List.length_nil, List.length_append, List.length_cons]; omega) rfl (fun A27 c27 => ?_)
          refine oj_nil ?_
          refine ej_pl (lt_y (y_loadN Tryz.isAgg67 Tryz.sizeOf67 rfl) rfl (lt_w (by kernel_rfl) (lt_y (y_fa fa65_2 rfl) rfl (lt_y (y_loadN Tryz.isAgg62 Tryz.sizeOf62 rfl) rfl (lt_y (y_fa0 fa65_0 rfl) rfl (lt_nil)))))) ?_
          refine pl_w1 7 (by kernel_rfl) rfl rfl (pl_fire rfl rfl rfl (by kernel_rfl) ?_)
          refine oj_buildSlice (cs := [.int .i64 x.who, .int .i64 x.way, .int .i64 x.most]) [.int .i64 0, .int .i64 0, .int .i64 0] Tryz.underlying63 Tryz.sizeOf67 Tryz.zeroValue67 rfl rfl (by kernel_rfl) (by kernel_rfl) rfl (fun b29 => ?_)
          refine oj_nil ?_
          refine ej_pl (lt_w (by kernel_rfl) (lt_y (y_load1 Tryz.isAgg63 rfl rfl) rfl (lt_y (y_fa fa65_2 rfl) rfl (lt_y (y_loadN Tryz.isAgg62 Tryz.sizeOf62 rfl) rfl (lt_y (y_fa0 fa65_0 rfl) rfl (lt_nil)))))) ?_
          refine pl_w1 8 (by kernel_rfl) rfl rfl (pl_fire rfl rfl rfl (by kernel_rfl) ?_)
          refine oj_append  el63 (fun _ => rfl) Au.encBi_one rfl rfl rfl (reads_lit [x] (fun _ => rfl) rfl) (by unfold maxLen; simp only [List.length_nil, List.length_append, List.length_cons]; omega) (by simp only [List.length_nil, List.length_append, List.length_cons]; omega) rfl (fun A30 c30 => ?_)
          refine oj_nil ?_
          refine ej_pl (lt_y (y_loadN Tryz.isAgg67 Tryz.sizeOf67 rfl) rfl (lt_y (y_load1 Tryz.isAgg63 rfl rfl) rfl (lt_y (y_fa fa65_2 rfl) rfl (lt_y (y_loadN Tryz.isAgg62 Tryz.sizeOf62 rfl) rfl (lt_y (y_fa0 fa65_0 rfl) rfl (lt_nil)))))) ?_
          refine pl_y 9 rfl (y_call Tryz.call19 rfl (fun w hp => Au.k_Sell st rv lad Al cl ((([] : List Am.BidV) ++ bs) ++ [x]) A30 c30 w hp.rd (hp.rdO (fun _ => rfl) (by unfold maxLen; simp; omega)))) rfl rfl rfl rfl (by kernel_rfl) ?_
          refine pl_y 10 rfl (y_move rfl) rfl rfl rfl rfl (by kernel_rfl) ?_
          refine pl_y 11 rfl (y_extract rfl rfl) rfl rfl rfl rfl (by kernel_rfl) ?_
          refine pl_y 12 rfl (y_extract rfl rfl) rfl rfl rfl rfl (by kernel_rfl) ?_
          refine pl_w1 14 (by kernel_rfl) rfl rfl (pl_fire rfl rfl rfl (by kernel_rfl) ?_)
          refine oj_store rfl rfl rfl rfl Tryz.sizeOf69 rfl ?_
          refine oj_nil ?_
          refine ej_pl (lt_y (y_extract rfl rfl) rfl (lt_w (by kernel_rfl) (lt_w (by kernel_rfl) (lt_w (by kernel_rfl) (lt_w (by kernel_rfl) (lt_w (by kernel_rfl) (lt_w (by kernel_rfl) (lt_w (by kernel_rfl) (lt_w (by kernel_rfl) (lt_nil)))))))))) ?_
          refine pl_y 15 rfl (y_assign rfl) rfl rfl rfl rfl (by kernel_rfl) ?_
          refine pl_end (by kernel_rfl) ?_
          refine ej_takes [ownB b7 (cellsB 69 [.int .i64 (Au.SellV st rv lad ((([] : List Am.BidV) ++ bs) ++ [x])).winner, .int .i64 (Au.SellV st rv lad ((([] : List Am.BidV) ++ bs) ++ [x])).price]), ownB b5 (cellsB 69 [.int .i64 (Au.SellV st rv lad bs).winner, .int .i64 (Au.SellV st rv lad bs).price]), ownB b3 (cellsB 67 [.int .i64 x.who, .int .i64 x.way, .int .i64 x.most]), ownB b2 (cellsB 65 [.int .i64 st, .int .i64 rv, .slice Al lad.length cl, .slice Ap ps.length cp, .slice Ab bs.length cb])] ?_
          refine ej_eqO [ownB b7 (cellsB 69 [.int .i64 (Au.SellV st rv lad (bs ++ [x])).winner, .int .i64 (Au.SellV st rv lad (bs ++ [x])).price]), ownB b5 (cellsB 69 [.int .i64 (Au.SellV st rv lad bs).winner, .int .i64 (Au.SellV st rv lad bs).price]), ownB b3 (cellsB 67 [.int .i64 x.who, .int .i64 x.way, .int .i64 x.most]), ownB b2 (cellsB 65 [.int .i64 st, .int .i64 rv, .slice Al lad.length cl, .slice Ap ps.length cp, .slice Ab bs.length cb])] rfl ?_
          exact ej_ct b7 trivial ⟨rfl, rfl, rfl, rfl, rfl, rfl, trivial⟩
        · refine oj_buildSlice (cs := [.int .i64 x.who, .int .i64 x.way, .int .i64 x.most]) [.int .i64 0, .int .i64 0, .int .i64 0] Tryz.underlying63 Tryz.sizeOf67 Tryz.zeroValue67 rfl rfl (by kernel_rfl) (by kernel_rfl) rfl (fun b29 => ?_)
          refine oj_nil ?_
          refine ej_pl (lt_w (by kernel_rfl) (lt_y (y_load1 Tryz.isAgg63 rfl rfl) rfl (lt_y (y_fa fa65_2 rfl) rfl (lt_y (y_loadN Tryz.isAgg62 Tryz.sizeOf62 rfl) rfl (lt_y (y_fa0 fa65_0 rfl) rfl (lt_nil)))))) ?_
          refine pl_w1 5 (by kernel_rfl) rfl rfl (pl_fire rfl rfl rfl (by kernel_rfl) ?_)
          refine oj_append (xs := ([] : List Am.BidV)) (c := 0) el63 (fun _ => rfl) Au.encBi_one rfl rfl rfl (reads_sl) (by unfold maxLen; simp only [List.length_nil, List.length_append, List.length_cons]; omega) (by simp only [List.length_nil, List.length_append, List.length_cons]; omega) rfl (fun A27 c27 => ?_)
          refine oj_nil ?_
          refine ej_pl (lt_y (y_loadN Tryz.isAgg67 Tryz.sizeOf67 rfl) rfl (lt_w (by kernel_rfl) (lt_y (y_fa fa65_2 rfl) rfl (lt_y (y_loadN Tryz.isAgg62 Tryz.sizeOf62 rfl) rfl (lt_y (y_fa0 fa65_0 rfl) rfl (lt_nil)))))) ?_
          refine pl_w1 8 (by kernel_rfl) rfl rfl (pl_fire rfl rfl rfl (by kernel_rfl) ?_)
          refine oj_append  el63 (fun _ => rfl) Au.encBi_one rfl rfl rfl (reads_lit [x] (fun _ => rfl) rfl) (by unfold maxLen; simp only [List.length_nil, List.length_append, List.length_cons]; omega) (by simp only [List.length_nil, List.length_append, List.length_cons]; omega) rfl (fun A30 c30 => ?_)
          refine oj_nil ?_
          refine ej_pl (lt_y (y_loadN Tryz.isAgg67 Tryz.sizeOf67 rfl) rfl (lt_y (y_load1 Tryz.isAgg63 rfl rfl) rfl (lt_y (y_fa fa65_2 rfl) rfl (lt_y (y_loadN Tryz.isAgg62 Tryz.sizeOf62 rfl) rfl (lt_y (y_fa0 fa65_0 rfl) rfl (lt_nil)))))) ?_
          refine pl_y 9 rfl (y_call Tryz.call19 rfl (fun w hp => Au.k_Sell st rv lad Al cl ((([] : List Am.BidV) ++ bs) ++ [x]) A30 c30 w hp.rd (hp.rdO (fun _ => rfl) (by unfold maxLen; simp; omega)))) rfl rfl rfl rfl (by kernel_rfl) ?_
          refine pl_y 10 rfl (y_move rfl) rfl rfl rfl rfl (by kernel_rfl) ?_
          refine pl_y 11 rfl (y_extract rfl rfl) rfl rfl rfl rfl (by kernel_rfl) ?_
          refine pl_y 12 rfl (y_extract rfl rfl) rfl rfl rfl rfl (by kernel_rfl) ?_
          refine pl_w1 14 (by kernel_rfl) rfl rfl (pl_fire rfl rfl rfl (by kernel_rfl) ?_)
          refine oj_store rfl rfl rfl rfl Tryz.sizeOf69 rfl ?_
          refine oj_nil ?_
          refine ej_pl (lt_y (y_extract rfl rfl) rfl (lt_w (by kernel_rfl) (lt_w (by kernel_rfl) (lt_w (by kernel_rfl) (lt_w (by kernel_rfl) (lt_w (by kernel_rfl) (lt_w (by kernel_rfl) (lt_w (by kernel_rfl) (lt_w (by kernel_rfl) (lt_nil)))))))))) ?_
          refine pl_y 15 rfl (y_assign rfl) rfl rfl rfl rfl (by kernel_rfl) ?_
          refine pl_end (by kernel_rfl) ?_
          refine ej_takes [ownB b7 (cellsB 69 [.int .i64 (Au.SellV st rv lad ((([] : List Am.BidV) ++ bs) ++ [x])).winner, .int .i64 (Au.SellV st rv lad ((([] : List Am.BidV) ++ bs) ++ [x])).price]), ownB b5 (cellsB 69 [.int .i64 (Au.SellV st rv lad bs).winner, .int .i64 (Au.SellV st rv lad bs).price]), ownB b3 (cellsB 67 [.int .i64 x.who, .int .i64 x.way, .int .i64 x.most]), ownB b2 (cellsB 65 [.int .i64 st, .int .i64 rv, .slice Al lad.length cl, .slice Ap ps.length cp, .slice Ab bs.length cb])] ?_
          refine ej_eqO [ownB b7 (cellsB 69 [.int .i64 (Au.SellV st rv lad (bs ++ [x])).winner, .int .i64 (Au.SellV st rv lad (bs ++ [x])).price]), ownB b5 (cellsB 69 [.int .i64 (Au.SellV st rv lad bs).winner, .int .i64 (Au.SellV st rv lad bs).price]), ownB b3 (cellsB 67 [.int .i64 x.who, .int .i64 x.way, .int .i64 x.most]), ownB b2 (cellsB 65 [.int .i64 st, .int .i64 rv, .slice Al lad.length cl, .slice Ap ps.length cp, .slice Ab bs.length cb])] rfl ?_
          exact ej_ct b7 trivial ⟨rfl, rfl, rfl, rfl, rfl, rfl, trivial⟩
    · refine oj_buildSlice (cs := [.int .i64 x.who, .int .i64 x.way, .int .i64 x.most]) [.int .i64 0, .int .i64 0, .int .i64 0] Tryz.underlying63 Tryz.sizeOf67 Tryz.zeroValue67 rfl rfl (by kernel_rfl) (by kernel_rfl) rfl (fun b29 => ?_)
      refine oj_nil ?_
      refine ej_pl (lt_w (by kernel_rfl) (lt_y (y_load1 Tryz.isAgg63 rfl rfl) rfl (lt_y (y_fa fa65_2 rfl) rfl (lt_y (y_loadN Tryz.isAgg62 Tryz.sizeOf62 rfl) rfl (lt_y (y_fa0 fa65_0 rfl) rfl (lt_nil)))))) ?_
      refine pl_w2 2 13 (by kernel_rfl) rfl rfl (pl_fire rfl rfl rfl (by kernel_rfl) ?_) (pl_fire rfl rfl rfl (by kernel_rfl) ?_)
      · refine oj_buildSlice (cs := []) [] Tryz.underlying63 Tryz.sizeOf67 Tryz.zeroValue67 rfl rfl (by kernel_rfl) (by kernel_rfl) rfl (fun b24 => ?_)
        refine oj_litOw (b := b24) (e := 67) (c := 0) (sz := 3) (enc := Au.encBi) [] rfl rfl rfl (by unfold maxLen; simp) ?_
        refine oj_nil ?_
        refine ej_pl (lt_y (y_loadN Tryz.isAgg67 Tryz.sizeOf67 rfl) rfl (lt_y (y_load1 Tryz.isAgg63 rfl rfl) rfl (lt_y (y_fa fa65_2 rfl) rfl (lt_y (y_loadN Tryz.isAgg62 Tryz.sizeOf62 rfl) rfl (lt_y (y_fa0 fa65_0 rfl) rfl (lt_nil)))))) ?_
        refine pl_w2 5 13 (by kernel_rfl) rfl rfl (pl_fire rfl rfl rfl (by kernel_rfl) ?_) (pl_fire rfl rfl rfl (by kernel_rfl) ?_)
        · refine oj_append (xs := ([] : List Am.BidV)) (c := 0) el63 (fun _ => rfl) Au.encBi_one rfl rfl rfl (reads_sl) (by unfold maxLen; simp only [List.length_nil, List.length_append, List.length_cons]; omega) (by simp only [List.length_nil, List.length_append, List.length_cons]; omega) rfl (fun A27 c27 => ?_)
          refine oj_nil ?_
          refine ej_pl (lt_y (y_loadN Tryz.isAgg67 Tryz.sizeOf67 rfl) rfl (lt_w (by kernel_rfl) (lt_y (y_fa fa65_2 rfl) rfl (lt_y (y_loadN Tryz.isAgg62 Tryz.sizeOf62 rfl) rfl (lt_y (y_fa0 fa65_0 rfl) rfl (lt_nil)))))) ?_
          refine pl_w2 8 13 (by kernel_rfl) rfl rfl (pl_fire rfl rfl rfl (by kernel_rfl) ?_) (pl_fire rfl rfl rfl (by kernel_rfl) ?_)
          · refine oj_append  el63 (fun _ => rfl) Au.encBi_one rfl rfl rfl (reads_lit [x] (fun _ => rfl) rfl) (by unfold maxLen; simp only [List.length_nil, List.length_append, List.length_cons]; omega) (by simp only [List.length_nil, List.length_append, List.length_cons]; omega) rfl (fun A30 c30 => ?_)
            refine oj_nil ?_
            refine ej_pl (lt_y (y_loadN Tryz.isAgg67 Tryz.sizeOf67 rfl) rfl (lt_y (y_load1 Tryz.isAgg63 rfl rfl) rfl (lt_y (y_fa fa65_2 rfl) rfl (lt_y (y_loadN Tryz.isAgg62 Tryz.sizeOf62 rfl) rfl (lt_y (y_fa0 fa65_0 rfl) rfl (lt_nil)))))) ?_
            refine pl_y 9 rfl (y_call Tryz.call19 rfl (fun w hp => Au.k_Sell st rv lad Al cl ((([] : List Am.BidV) ++ bs) ++ [x]) A30 c30 w hp.rd (hp.rdO (fun _ => rfl) (by unfold maxLen; simp; omega)))) rfl rfl rfl rfl (by kernel_rfl) ?_
            refine pl_y 10 rfl (y_move rfl) rfl rfl rfl rfl (by kernel_rfl) ?_
            refine pl_y 11 rfl (y_extract rfl rfl) rfl rfl rfl rfl (by kernel_rfl) ?_
            refine pl_y 12 rfl (y_extract rfl rfl) rfl rfl rfl rfl (by kernel_rfl) ?_
            refine pl_w1 13 (by kernel_rfl) rfl rfl (pl_fire rfl rfl rfl (by kernel_rfl) ?_)
            refine oj_alloc Tryz.zeroValue69 rfl rfl (fun b7 => ?_)
            refine oj_nil ?_
            refine ej_pl (lt_y (y_extract rfl rfl) rfl (lt_y (y_extract rfl rfl) rfl (lt_y (y_move rfl) rfl (lt_y (y_call Tryz.call19 rfl (fun w hp => Au.k_Sell st rv lad Al cl ((([] : List Am.BidV) ++ bs) ++ [x]) A30 c30 w hp.rd (hp.rdO (fun _ => rfl) (by unfold maxLen; simp; omega)))) rfl (lt_y (y_loadN Tryz.isAgg67 Tryz.sizeOf67 rfl) rfl (lt_y (y_load1 Tryz.isAgg63 rfl rfl) rfl (lt_y (y_fa fa65_2 rfl) rfl (lt_y (y_loadN Tryz.isAgg62 Tryz.sizeOf62 rfl) rfl (lt_y (y_fa0 fa65_0 rfl) rfl (lt_nil)))))))))) ?_
            refine pl_w1 14 (by kernel_rfl) rfl rfl (pl_fire rfl rfl rfl (by kernel_rfl) ?_)
            refine oj_store rfl rfl rfl rfl Tryz.sizeOf69 rfl ?_
            refine oj_nil ?_
            refine ej_pl (lt_y (y_extract rfl rfl) rfl (lt_w (by kernel_rfl) (lt_w (by kernel_rfl) (lt_w (by kernel_rfl) (lt_w (by kernel_rfl) (lt_w (by kernel_rfl) (lt_w (by kernel_rfl) (lt_w (by kernel_rfl) (lt_w (by kernel_rfl) (lt_nil)))))))))) ?_
            refine pl_y 15 rfl (y_assign rfl) rfl rfl rfl rfl (by kernel_rfl) ?_
            refine pl_end (by kernel_rfl) ?_
            refine ej_takes [ownB b7 (cellsB 69 [.int .i64 (Au.SellV st rv lad ((([] : List Am.BidV) ++ bs) ++ [x])).winner, .int .i64 (Au.SellV st rv lad ((([] : List Am.BidV) ++ bs) ++ [x])).price]), ownB b5 (cellsB 69 [.int .i64 (Au.SellV st rv lad bs).winner, .int .i64 (Au.SellV st rv lad bs).price]), ownB b3 (cellsB 67 [.int .i64 x.who, .int .i64 x.way, .int .i64 x.most]), ownB b2 (cellsB 65 [.int .i64 st, .int .i64 rv, .slice Al lad.length cl, .slice Ap ps.length cp, .slice Ab bs.length cb])] ?_
            refine ej_eqO [ownB b7 (cellsB 69 [.int .i64 (Au.SellV st rv lad (bs ++ [x])).winner, .int .i64 (Au.SellV st rv lad (bs ++ [x])).price]), ownB b5 (cellsB 69 [.int .i64 (Au.SellV st rv lad bs).winner, .int .i64 (Au.SellV st rv lad bs).price]), ownB b3 (cellsB 67 [.int .i64 x.who, .int .i64 x.way, .int .i64 x.most]), ownB b2 (cellsB 65 [.int .i64 st, .int .i64 rv, .slice Al lad.length cl, .slice Ap ps.length cp, .slice Ab bs.length cb])] rfl ?_
            exact ej_ct b7 trivial ⟨rfl, rfl, rfl, rfl, rfl, rfl, trivial⟩
          · refine oj_alloc Tryz.zeroValue69 rfl rfl (fun b7 => ?_)
            refine oj_nil ?_
            refine ej_pl (lt_y (y_loadN Tryz.isAgg67 Tryz.sizeOf67 rfl) rfl (lt_y (y_load1 Tryz.isAgg63 rfl rfl) rfl (lt_y (y_fa fa65_2 rfl) rfl (lt_y (y_loadN Tryz.isAgg62 Tryz.sizeOf62 rfl) rfl (lt_y (y_fa0 fa65_0 rfl) rfl (lt_nil)))))) ?_
            refine pl_w1 8 (by kernel_rfl) rfl rfl (pl_fire rfl rfl rfl (by kernel_rfl) ?_)
            refine oj_append  el63 (fun _ => rfl) Au.encBi_one rfl rfl rfl (reads_lit [x] (fun _ => rfl) rfl) (by unfold maxLen; simp only [List.length_nil, List.length_append, List.length_cons]; omega) (by simp only [List.length_nil, List.length_append, List.length_cons]; omega) rfl (fun A30 c30 => ?_)
            refine oj_nil ?_
            refine ej_pl (lt_y (y_loadN Tryz.isAgg67 Tryz.sizeOf67 rfl) rfl (lt_y (y_load1 Tryz.isAgg63 rfl rfl) rfl (lt_y (y_fa fa65_2 rfl) rfl (lt_y (y_loadN Tryz.isAgg62 Tryz.sizeOf62 rfl) rfl (lt_y (y_fa0 fa65_0 rfl) rfl (lt_nil)))))) ?_
            refine pl_y 9 rfl (y_call Tryz.call19 rfl (fun w hp => Au.k_Sell st rv lad Al cl ((([] : List Am.BidV) ++ bs) ++ [x]) A30 c30 w hp.rd (hp.rdO (fun _ => rfl) (by unfold maxLen; simp; omega)))) rfl rfl rfl rfl (by kernel_rfl) ?_
            refine pl_y 10 rfl (y_move rfl) rfl rfl rfl rfl (by kernel_rfl) ?_
            refine pl_y 11 rfl (y_extract rfl rfl) rfl rfl rfl rfl (by kernel_rfl) ?_
            refine pl_y 12 rfl (y_extract rfl rfl) rfl rfl rfl rfl (by kernel_rfl) ?_
            refine pl_w1 14 (by kernel_rfl) rfl rfl (pl_fire rfl rfl rfl (by kernel_rfl) ?_)
            refine oj_store rfl rfl rfl rfl Tryz.sizeOf69 rfl ?_
            refine oj_nil ?_
            refine ej_pl (lt_y (y_extract rfl rfl) rfl (lt_w (by kernel_rfl) (lt_w (by kernel_rfl) (lt_w (by kernel_rfl) (lt_w (by kernel_rfl) (lt_w (by kernel_rfl) (lt_w (by kernel_rfl) (lt_w (by kernel_rfl) (lt_w (by kernel_rfl) (lt_nil)))))))))) ?_
            refine pl_y 15 rfl (y_assign rfl) rfl rfl rfl rfl (by kernel_rfl) ?_
            refine pl_end (by kernel_rfl) ?_
            refine ej_takes [ownB b7 (cellsB 69 [.int .i64 (Au.SellV st rv lad ((([] : List Am.BidV) ++ bs) ++ [x])).winner, .int .i64 (Au.SellV st rv lad ((([] : List Am.BidV) ++ bs) ++ [x])).price]), ownB b5 (cellsB 69 [.int .i64 (Au.SellV st rv lad bs).winner, .int .i64 (Au.SellV st rv lad bs).price]), ownB b3 (cellsB 67 [.int .i64 x.who, .int .i64 x.way, .int .i64 x.most]), ownB b2 (cellsB 65 [.int .i64 st, .int .i64 rv, .slice Al lad.length cl, .slice Ap ps.length cp, .slice Ab bs.length cb])] ?_
            refine ej_eqO [ownB b7 (cellsB 69 [.int .i64 (Au.SellV st rv lad (bs ++ [x])).winner, .int .i64 (Au.SellV st rv lad (bs ++ [x])).price]), ownB b5 (cellsB 69 [.int .i64 (Au.SellV st rv lad bs).winner, .int .i64 (Au.SellV st rv lad bs).price]), ownB b3 (cellsB 67 [.int .i64 x.who, .int .i64 x.way, .int .i64 x.most]), ownB b2 (cellsB 65 [.int .i64 st, .int .i64 rv, .slice Al lad.length cl, .slice Ap ps.length cp, .slice Ab bs.length cb])] rfl ?_
            exact ej_ct b7 trivial ⟨rfl, rfl, rfl, rfl, rfl, rfl, trivial⟩
        · refine oj_alloc Tryz.zeroValue69 rfl rfl (fun b7 => ?_)
          refine oj_nil ?_
          refine ej_pl (lt_y (y_loadN Tryz.isAgg67 Tryz.sizeOf67 rfl) rfl (lt_y (y_load1 Tryz.isAgg63 rfl rfl) rfl (lt_y (y_fa fa65_2 rfl) rfl (lt_y (y_loadN Tryz.isAgg62 Tryz.sizeOf62 rfl) rfl (lt_y (y_fa0 fa65_0 rfl) rfl (lt_nil)))))) ?_
          refine pl_w1 5 (by kernel_rfl) rfl rfl (pl_fire rfl rfl rfl (by kernel_rfl) ?_)
          refine oj_append (xs := ([] : List Am.BidV)) (c := 0) el63 (fun _ => rfl) Au.encBi_one rfl rfl rfl (reads_sl) (by unfold maxLen; simp only [List.length_nil, List.length_append, List.length_cons]; omega) (by simp only [List.length_nil, List.length_append, List.length_cons]; omega) rfl (fun A27 c27 => ?_)
          refine oj_nil ?_
          refine ej_pl (lt_y (y_loadN Tryz.isAgg67 Tryz.sizeOf67 rfl) rfl (lt_w (by kernel_rfl) (lt_y (y_fa fa65_2 rfl) rfl (lt_y (y_loadN Tryz.isAgg62 Tryz.sizeOf62 rfl) rfl (lt_y (y_fa0 fa65_0 rfl) rfl (lt_nil)))))) ?_
          refine pl_w1 8 (by kernel_rfl) rfl rfl (pl_fire rfl rfl rfl (by kernel_rfl) ?_)
          refine oj_append  el63 (fun _ => rfl) Au.encBi_one rfl rfl rfl (reads_lit [x] (fun _ => rfl) rfl) (by unfold maxLen; simp only [List.length_nil, List.length_append, List.length_cons]; omega) (by simp only [List.length_nil, List.length_append, List.length_cons]; omega) rfl (fun A30 c30 => ?_)
          refine oj_nil ?_
          refine ej_pl (lt_y (y_loadN Tryz.isAgg67 Tryz.sizeOf67 rfl) rfl (lt_y (y_load1 Tryz.isAgg63 rfl rfl) rfl (lt_y (y_fa fa65_2 rfl) rfl (lt_y (y_loadN Tryz.isAgg62 Tryz.sizeOf62 rfl) rfl (lt_y (y_fa0 fa65_0 rfl) rfl (lt_nil)))))) ?_
          refine pl_y 9 rfl (y_call Tryz.call19 rfl (fun w hp => Au.k_Sell st rv lad Al cl ((([] : List Am.BidV) ++ bs) ++ [x]) A30 c30 w hp.rd (hp.rdO (fun _ => rfl) (by unfold maxLen; simp; omega)))) rfl rfl rfl rfl (by kernel_rfl) ?_
          refine pl_y 10 rfl (y_move rfl) rfl rfl rfl rfl (by kernel_rfl) ?_
          refine pl_y 11 rfl (y_extract rfl rfl) rfl rfl rfl rfl (by kernel_rfl) ?_
          refine pl_y 12 rfl (y_extract rfl rfl) rfl rfl rfl rfl (by kernel_rfl) ?_
          refine pl_w1 14 (by kernel_rfl) rfl rfl (pl_fire rfl rfl rfl (by kernel_rfl) ?_)
          refine oj_store rfl rfl rfl rfl Tryz.sizeOf69 rfl ?_
          refine oj_nil ?_
          refine ej_pl (lt_y (y_extract rfl rfl) rfl (lt_w (by kernel_rfl) (lt_w (by kernel_rfl) (lt_w (by kernel_rfl) (lt_w (by kernel_rfl) (lt_w (by kernel_rfl) (lt_w (by kernel_rfl) (lt_w (by kernel_rfl) (lt_w (by kernel_rfl) (lt_nil)))))))))) ?_
          refine pl_y 15 rfl (y_assign rfl) rfl rfl rfl rfl (by kernel_rfl) ?_
          refine pl_end (by kernel_rfl) ?_
          refine ej_takes [ownB b7 (cellsB 69 [.int .i64 (Au.SellV st rv lad ((([] : List Am.BidV) ++ bs) ++ [x])).winner, .int .i64 (Au.SellV st rv lad ((([] : List Am.BidV) ++ bs) ++ [x])).price]), ownB b5 (cellsB 69 [.int .i64 (Au.SellV st rv lad bs).winner, .int .i64 (Au.SellV st rv lad bs).price]), ownB b3 (cellsB 67 [.int .i64 x.who, .int .i64 x.way, .int .i64 x.most]), ownB b2 (cellsB 65 [.int .i64 st, .int .i64 rv, .slice Al lad.length cl, .slice Ap ps.length cp, .slice Ab bs.length cb])] ?_
          refine ej_eqO [ownB b7 (cellsB 69 [.int .i64 (Au.SellV st rv lad (bs ++ [x])).winner, .int .i64 (Au.SellV st rv lad (bs ++ [x])).price]), ownB b5 (cellsB 69 [.int .i64 (Au.SellV st rv lad bs).winner, .int .i64 (Au.SellV st rv lad bs).price]), ownB b3 (cellsB 67 [.int .i64 x.who, .int .i64 x.way, .int .i64 x.most]), ownB b2 (cellsB 65 [.int .i64 st, .int .i64 rv, .slice Al lad.length cl, .slice Ap ps.length cp, .slice Ab bs.length cb])] rfl ?_
          exact ej_ct b7 trivial ⟨rfl, rfl, rfl, rfl, rfl, rfl, trivial⟩
      · refine oj_alloc Tryz.zeroValue69 rfl rfl (fun b7 => ?_)
        refine oj_nil ?_
        refine ej_pl (lt_y (y_loadN Tryz.isAgg67 Tryz.sizeOf67 rfl) rfl (lt_y (y_load1 Tryz.isAgg63 rfl rfl) rfl (lt_y (y_fa fa65_2 rfl) rfl (lt_y (y_loadN Tryz.isAgg62 Tryz.sizeOf62 rfl) rfl (lt_y (y_fa0 fa65_0 rfl) rfl (lt_nil)))))) ?_
        refine pl_w1 2 (by kernel_rfl) rfl rfl (pl_fire rfl rfl rfl (by kernel_rfl) ?_)
        refine oj_buildSlice (cs := []) [] Tryz.underlying63 Tryz.sizeOf67 Tryz.zeroValue67 rfl rfl (by kernel_rfl) (by kernel_rfl) rfl (fun b24 => ?_)
        refine oj_litOw (b := b24) (e := 67) (c := 0) (sz := 3) (enc := Au.encBi) [] rfl rfl rfl (by unfold maxLen; simp) ?_
        refine oj_nil ?_
        refine ej_pl (lt_y (y_loadN Tryz.isAgg67 Tryz.sizeOf67 rfl) rfl (lt_y (y_load1 Tryz.isAgg63 rfl rfl) rfl (lt_y (y_fa fa65_2 rfl) rfl (lt_y (y_loadN Tryz.isAgg62 Tryz.sizeOf62 rfl) rfl (lt_y (y_fa0 fa65_0 rfl) rfl (lt_nil)))))) ?_
        refine pl_w1 5 (by kernel_rfl) rfl rfl (pl_fire rfl rfl rfl (by kernel_rfl) ?_)
        refine oj_append (xs := ([] : List Am.BidV)) (c := 0) el63 (fun _ => rfl) Au.encBi_one rfl rfl rfl (reads_sl) (by unfold maxLen; simp only [List.length_nil, List.length_append, List.length_cons]; omega) (by simp only [List.length_nil, List.length_append, List.length_cons]; omega) rfl (fun A27 c27 => ?_)
        refine oj_nil ?_
        refine ej_pl (lt_y (y_loadN Tryz.isAgg67 Tryz.sizeOf67 rfl) rfl (lt_w (by kernel_rfl) (lt_y (y_fa fa65_2 rfl) rfl (lt_y (y_loadN Tryz.isAgg62 Tryz.sizeOf62 rfl) rfl (lt_y (y_fa0 fa65_0 rfl) rfl (lt_nil)))))) ?_
        refine pl_w1 8 (by kernel_rfl) rfl rfl (pl_fire rfl rfl rfl (by kernel_rfl) ?_)
        refine oj_append  el63 (fun _ => rfl) Au.encBi_one rfl rfl rfl (reads_lit [x] (fun _ => rfl) rfl) (by unfold maxLen; simp only [List.length_nil, List.length_append, List.length_cons]; omega) (by simp only [List.length_nil, List.length_append, List.length_cons]; omega) rfl (fun A30 c30 => ?_)
        refine oj_nil ?_
        refine ej_pl (lt_y (y_loadN Tryz.isAgg67 Tryz.sizeOf67 rfl) rfl (lt_y (y_load1 Tryz.isAgg63 rfl rfl) rfl (lt_y (y_fa fa65_2 rfl) rfl (lt_y (y_loadN Tryz.isAgg62 Tryz.sizeOf62 rfl) rfl (lt_y (y_fa0 fa65_0 rfl) rfl (lt_nil)))))) ?_
        refine pl_y 9 rfl (y_call Tryz.call19 rfl (fun w hp => Au.k_Sell st rv lad Al cl ((([] : List Am.BidV) ++ bs) ++ [x]) A30 c30 w hp.rd (hp.rdO (fun _ => rfl) (by unfold maxLen; simp; omega)))) rfl rfl rfl rfl (by kernel_rfl) ?_
        refine pl_y 10 rfl (y_move rfl) rfl rfl rfl rfl (by kernel_rfl) ?_
        refine pl_y 11 rfl (y_extract rfl rfl) rfl rfl rfl rfl (by kernel_rfl) ?_
        refine pl_y 12 rfl (y_extract rfl rfl) rfl rfl rfl rfl (by kernel_rfl) ?_
        refine pl_w1 14 (by kernel_rfl) rfl rfl (pl_fire rfl rfl rfl (by kernel_rfl) ?_)
        refine oj_store rfl rfl rfl rfl Tryz.sizeOf69 rfl ?_
        refine oj_nil ?_
        refine ej_pl (lt_y (y_extract rfl rfl) rfl (lt_w (by kernel_rfl) (lt_w (by kernel_rfl) (lt_w (by kernel_rfl) (lt_w (by kernel_rfl) (lt_w (by kernel_rfl) (lt_w (by kernel_rfl) (lt_w (by kernel_rfl) (lt_w (by kernel_rfl) (lt_nil)))))))))) ?_
        refine pl_y 15 rfl (y_assign rfl) rfl rfl rfl rfl (by kernel_rfl) ?_
        refine pl_end (by kernel_rfl) ?_
        refine ej_takes [ownB b7 (cellsB 69 [.int .i64 (Au.SellV st rv lad ((([] : List Am.BidV) ++ bs) ++ [x])).winner, .int .i64 (Au.SellV st rv lad ((([] : List Am.BidV) ++ bs) ++ [x])).price]), ownB b5 (cellsB 69 [.int .i64 (Au.SellV st rv lad bs).winner, .int .i64 (Au.SellV st rv lad bs).price]), ownB b3 (cellsB 67 [.int .i64 x.who, .int .i64 x.way, .int .i64 x.most]), ownB b2 (cellsB 65 [.int .i64 st, .int .i64 rv, .slice Al lad.length cl, .slice Ap ps.length cp, .slice Ab bs.length cb])] ?_
        refine ej_eqO [ownB b7 (cellsB 69 [.int .i64 (Au.SellV st rv lad (bs ++ [x])).winner, .int .i64 (Au.SellV st rv lad (bs ++ [x])).price]), ownB b5 (cellsB 69 [.int .i64 (Au.SellV st rv lad bs).winner, .int .i64 (Au.SellV st rv lad bs).price]), ownB b3 (cellsB 67 [.int .i64 x.who, .int .i64 x.way, .int .i64 x.most]), ownB b2 (cellsB 65 [.int .i64 st, .int .i64 rv, .slice Al lad.length cl, .slice Ap ps.length cp, .slice Ab bs.length cb])] rfl ?_
        exact ej_ct b7 trivial ⟨rfl, rfl, rfl, rfl, rfl, rfl, trivial⟩
    · refine oj_alloc Tryz.zeroValue69 rfl rfl (fun b7 => ?_)
      refine oj_nil ?_
      refine ej_pl (lt_y (y_loadN Tryz.isAgg67 Tryz.sizeOf67 rfl) rfl (lt_y (y_load1 Tryz.isAgg63 rfl rfl) rfl (lt_y (y_fa fa65_2 rfl) rfl (lt_y (y_loadN Tryz.isAgg62 Tryz.sizeOf62 rfl) rfl (lt_y (y_fa0 fa65_0 rfl) rfl (lt_nil)))))) ?_
      refine pl_w2 2 7 (by kernel_rfl) rfl rfl (pl_fire rfl rfl rfl (by kernel_rfl) ?_) (pl_fire rfl rfl rfl (by kernel_rfl) ?_)
      · refine oj_buildSlice (cs := []) [] Tryz.underlying63 Tryz.sizeOf67 Tryz.zeroValue67 rfl rfl (by kernel_rfl) (by kernel_rfl) rfl (fun b24 => ?_)
        refine oj_litOw (b := b24) (e := 67) (c := 0) (sz := 3) (enc := Au.encBi) [] rfl rfl rfl (by unfold maxLen; simp) ?_
        refine oj_nil ?_
        refine ej_pl (lt_y (y_loadN Tryz.isAgg67 Tryz.sizeOf67 rfl) rfl (lt_y (y_load1 Tryz.isAgg63 rfl rfl) rfl (lt_y (y_fa fa65_2 rfl) rfl (lt_y (y_loadN Tryz.isAgg62 Tryz.sizeOf62 rfl) rfl (lt_y (y_fa0 fa65_0 rfl) rfl (lt_nil)))))) ?_
        refine pl_w2 5 7 (by kernel_rfl) rfl rfl (pl_fire rfl rfl rfl (by kernel_rfl) ?_) (pl_fire rfl rfl rfl (by kernel_rfl) ?_)
        · refine oj_append (xs := ([] : List Am.BidV)) (c := 0) el63 (fun _ => rfl) Au.encBi_one rfl rfl rfl (reads_sl) (by unfold maxLen; simp only [List.length_nil, List.length_append, List.length_cons]; omega) (by simp only [List.length_nil, List.length_append, List.length_cons]; omega) rfl (fun A27 c27 => ?_)
          refine oj_nil ?_
          refine ej_pl (lt_y (y_loadN Tryz.isAgg67 Tryz.sizeOf67 rfl) rfl (lt_w (by kernel_rfl) (lt_y (y_fa fa65_2 rfl) rfl (lt_y (y_loadN Tryz.isAgg62 Tryz.sizeOf62 rfl) rfl (lt_y (y_fa0 fa65_0 rfl) rfl (lt_nil)))))) ?_
          refine pl_w1 7 (by kernel_rfl) rfl rfl (pl_fire rfl rfl rfl (by kernel_rfl) ?_)
          refine oj_buildSlice (cs := [.int .i64 x.who, .int .i64 x.way, .int .i64 x.most]) [.int .i64 0, .int .i64 0, .int .i64 0] Tryz.underlying63 Tryz.sizeOf67 Tryz.zeroValue67 rfl rfl (by kernel_rfl) (by kernel_rfl) rfl (fun b29 => ?_)
          refine oj_nil ?_
          refine ej_pl (lt_w (by kernel_rfl) (lt_y (y_load1 Tryz.isAgg63 rfl rfl) rfl (lt_y (y_fa fa65_2 rfl) rfl (lt_y (y_loadN Tryz.isAgg62 Tryz.sizeOf62 rfl) rfl (lt_y (y_fa0 fa65_0 rfl) rfl (lt_nil)))))) ?_
          refine pl_w1 8 (by kernel_rfl) rfl rfl (pl_fire rfl rfl rfl (by kernel_rfl) ?_)
          refine oj_append  el63 (fun _ => rfl) Au.encBi_one rfl rfl rfl (reads_lit [x] (fun _ => rfl) rfl) (by unfold maxLen; simp only [List.length_nil, List.length_append, List.length_cons]; omega) (by simp only [List.length_nil, List.length_append, List.length_cons]; omega) rfl (fun A30 c30 => ?_)
          refine oj_nil ?_
          refine ej_pl (lt_y (y_loadN Tryz.isAgg67 Tryz.sizeOf67 rfl) rfl (lt_y (y_load1 Tryz.isAgg63 rfl rfl) rfl (lt_y (y_fa fa65_2 rfl) rfl (lt_y (y_loadN Tryz.isAgg62 Tryz.sizeOf62 rfl) rfl (lt_y (y_fa0 fa65_0 rfl) rfl (lt_nil)))))) ?_
          refine pl_y 9 rfl (y_call Tryz.call19 rfl (fun w hp => Au.k_Sell st rv lad Al cl ((([] : List Am.BidV) ++ bs) ++ [x]) A30 c30 w hp.rd (hp.rdO (fun _ => rfl) (by unfold maxLen; simp; omega)))) rfl rfl rfl rfl (by kernel_rfl) ?_
          refine pl_y 10 rfl (y_move rfl) rfl rfl rfl rfl (by kernel_rfl) ?_
          refine pl_y 11 rfl (y_extract rfl rfl) rfl rfl rfl rfl (by kernel_rfl) ?_
          refine pl_y 12 rfl (y_extract rfl rfl) rfl rfl rfl rfl (by kernel_rfl) ?_
          refine pl_w1 14 (by kernel_rfl) rfl rfl (pl_fire rfl rfl rfl (by kernel_rfl) ?_)
          refine oj_store rfl rfl rfl rfl Tryz.sizeOf69 rfl ?_
          refine oj_nil ?_
          refine ej_pl (lt_y (y_extract rfl rfl) rfl (lt_w (by kernel_rfl) (lt_w (by kernel_rfl) (lt_w (by kernel_rfl) (lt_w (by kernel_rfl) (lt_w (by kernel_rfl) (lt_w (by kernel_rfl) (lt_w (by kernel_rfl) (lt_w (by kernel_rfl) (lt_nil)))))))))) ?_
          refine pl_y 15 rfl (y_assign rfl) rfl rfl rfl rfl (by kernel_rfl) ?_
          refine pl_end (by kernel_rfl) ?_
          refine ej_takes [ownB b7 (cellsB 69 [.int .i64 (Au.SellV st rv lad ((([] : List Am.BidV) ++ bs) ++ [x])).winner, .int .i64 (Au.SellV st rv lad ((([] : List Am.BidV) ++ bs) ++ [x])).price]), ownB b5 (cellsB 69 [.int .i64 (Au.SellV st rv lad bs).winner, .int .i64 (Au.SellV st rv lad bs).price]), ownB b3 (cellsB 67 [.int .i64 x.who, .int .i64 x.way, .int .i64 x.most]), ownB b2 (cellsB 65 [.int .i64 st, .int .i64 rv, .slice Al lad.length cl, .slice Ap ps.length cp, .slice Ab bs.length cb])] ?_
          refine ej_eqO [ownB b7 (cellsB 69 [.int .i64 (Au.SellV st rv lad (bs ++ [x])).winner, .int .i64 (Au.SellV st rv lad (bs ++ [x])).price]), ownB b5 (cellsB 69 [.int .i64 (Au.SellV st rv lad bs).winner, .int .i64 (Au.SellV st rv lad bs).price]), ownB b3 (cellsB 67 [.int .i64 x.who, .int .i64 x.way, .int .i64 x.most]), ownB b2 (cellsB 65 [.int .i64 st, .int .i64 rv, .slice Al lad.length cl, .slice Ap ps.length cp, .slice Ab bs.length cb])] rfl ?_
          exact ej_ct b7 trivial ⟨rfl, rfl, rfl, rfl, rfl, rfl, trivial⟩
        · refine oj_buildSlice (cs := [.int .i64 x.who, .int .i64 x.way, .int .i64 x.most]) [.int .i64 0, .int .i64 0, .int .i64 0] Tryz.underlying63 Tryz.sizeOf67 Tryz.zeroValue67 rfl rfl (by kernel_rfl) (by kernel_rfl) rfl (fun b29 => ?_)
          refine oj_nil ?_
          refine ej_pl (lt_w (by kernel_rfl) (lt_y (y_load1 Tryz.isAgg63 rfl rfl) rfl (lt_y (y_fa fa65_2 rfl) rfl (lt_y (y_loadN Tryz.isAgg62 Tryz.sizeOf62 rfl) rfl (lt_y (y_fa0 fa65_0 rfl) rfl (lt_nil)))))) ?_
          refine pl_w1 5 (by kernel_rfl) rfl rfl (pl_fire rfl rfl rfl (by kernel_rfl) ?_)
          refine oj_append (xs := ([] : List Am.BidV)) (c := 0) el63 (fun _ => rfl) Au.encBi_one rfl rfl rfl (reads_sl) (by unfold maxLen; simp only [List.length_nil, List.length_append, List.length_cons]; omega) (by simp only [List.length_nil, List.length_append, List.length_cons]; omega) rfl (fun A27 c27 => ?_)
          refine oj_nil ?_
          refine ej_pl (lt_y (y_loadN Tryz.isAgg67 Tryz.sizeOf67 rfl) rfl (lt_w (by kernel_rfl) (lt_y (y_fa fa65_2 rfl) rfl (lt_y (y_loadN Tryz.isAgg62 Tryz.sizeOf62 rfl) rfl (lt_y (y_fa0 fa65_0 rfl) rfl (lt_nil)))))) ?_
          refine pl_w1 8 (by kernel_rfl) rfl rfl (pl_fire rfl rfl rfl (by kernel_rfl) ?_)
          refine oj_append  el63 (fun _ => rfl) Au.encBi_one rfl rfl rfl (reads_lit [x] (fun _ => rfl) rfl) (by unfold maxLen; simp only [List.length_nil, List.length_append, List.length_cons]; omega) (by simp only [List.length_nil, List.length_append, List.length_cons]; omega) rfl (fun A30 c30 => ?_)
          refine oj_nil ?_
          refine ej_pl (lt_y (y_loadN Tryz.isAgg67 Tryz.sizeOf67 rfl) rfl (lt_y (y_load1 Tryz.isAgg63 rfl rfl) rfl (lt_y (y_fa fa65_2 rfl) rfl (lt_y (y_loadN Tryz.isAgg62 Tryz.sizeOf62 rfl) rfl (lt_y (y_fa0 fa65_0 rfl) rfl (lt_nil)))))) ?_
          refine pl_y 9 rfl (y_call Tryz.call19 rfl (fun w hp => Au.k_Sell st rv lad Al cl ((([] : List Am.BidV) ++ bs) ++ [x]) A30 c30 w hp.rd (hp.rdO (fun _ => rfl) (by unfold maxLen; simp; omega)))) rfl rfl rfl rfl (by kernel_rfl) ?_
          refine pl_y 10 rfl (y_move rfl) rfl rfl rfl rfl (by kernel_rfl) ?_
          refine pl_y 11 rfl (y_extract rfl rfl) rfl rfl rfl rfl (by kernel_rfl) ?_
          refine pl_y 12 rfl (y_extract rfl rfl) rfl rfl rfl rfl (by kernel_rfl) ?_
          refine pl_w1 14 (by kernel_rfl) rfl rfl (pl_fire rfl rfl rfl (by kernel_rfl) ?_)
          refine oj_store rfl rfl rfl rfl Tryz.sizeOf69 rfl ?_
          refine oj_nil ?_
          refine ej_pl (lt_y (y_extract rfl rfl) rfl (lt_w (by kernel_rfl) (lt_w (by kernel_rfl) (lt_w (by kernel_rfl) (lt_w (by kernel_rfl) (lt_w (by kernel_rfl) (lt_w (by kernel_rfl) (lt_w (by kernel_rfl) (lt_w (by kernel_rfl) (lt_nil)))))))))) ?_
          refine pl_y 15 rfl (y_assign rfl) rfl rfl rfl rfl (by kernel_rfl) ?_
          refine pl_end (by kernel_rfl) ?_
          refine ej_takes [ownB b7 (cellsB 69 [.int .i64 (Au.SellV st rv lad ((([] : List Am.BidV) ++ bs) ++ [x])).winner, .int .i64 (Au.SellV st rv lad ((([] : List Am.BidV) ++ bs) ++ [x])).price]), ownB b5 (cellsB 69 [.int .i64 (Au.SellV st rv lad bs).winner, .int .i64 (Au.SellV st rv lad bs).price]), ownB b3 (cellsB 67 [.int .i64 x.who, .int .i64 x.way, .int .i64 x.most]), ownB b2 (cellsB 65 [.int .i64 st, .int .i64 rv, .slice Al lad.length cl, .slice Ap ps.length cp, .slice Ab bs.length cb])] ?_
          refine ej_eqO [ownB b7 (cellsB 69 [.int .i64 (Au.SellV st rv lad (bs ++ [x])).winner, .int .i64 (Au.SellV st rv lad (bs ++ [x])).price]), ownB b5 (cellsB 69 [.int .i64 (Au.SellV st rv lad bs).winner, .int .i64 (Au.SellV st rv lad bs).price]), ownB b3 (cellsB 67 [.int .i64 x.who, .int .i64 x.way, .int .i64 x.most]), ownB b2 (cellsB 65 [.int .i64 st, .int .i64 rv, .slice Al lad.length cl, .slice Ap ps.length cp, .slice Ab bs.length cb])] rfl ?_
          exact ej_ct b7 trivial ⟨rfl, rfl, rfl, rfl, rfl, rfl, trivial⟩
      · refine oj_buildSlice (cs := [.int .i64 x.who, .int .i64 x.way, .int .i64 x.most]) [.int .i64 0, .int .i64 0, .int .i64 0] Tryz.underlying63 Tryz.sizeOf67 Tryz.zeroValue67 rfl rfl (by kernel_rfl) (by kernel_rfl) rfl (fun b29 => ?_)
        refine oj_nil ?_
        refine ej_pl (lt_w (by kernel_rfl) (lt_y (y_load1 Tryz.isAgg63 rfl rfl) rfl (lt_y (y_fa fa65_2 rfl) rfl (lt_y (y_loadN Tryz.isAgg62 Tryz.sizeOf62 rfl) rfl (lt_y (y_fa0 fa65_0 rfl) rfl (lt_nil)))))) ?_
        refine pl_w1 2 (by kernel_rfl) rfl rfl (pl_fire rfl rfl rfl (by kernel_rfl) ?_)
        refine oj_buildSlice (cs := []) [] Tryz.underlying63 Tryz.sizeOf67 Tryz.zeroValue67 rfl rfl (by kernel_rfl) (by kernel_rfl) rfl (fun b24 => ?_)
        refine oj_litOw (b := b24) (e := 67) (c := 0) (sz := 3) (enc := Au.encBi) [] rfl rfl rfl (by unfold maxLen; simp) ?_
        refine oj_nil ?_
        refine ej_pl (lt_y (y_loadN Tryz.isAgg67 Tryz.sizeOf67 rfl) rfl (lt_y (y_load1 Tryz.isAgg63 rfl rfl) rfl (lt_y (y_fa fa65_2 rfl) rfl (lt_y (y_loadN Tryz.isAgg62 Tryz.sizeOf62 rfl) rfl (lt_y (y_fa0 fa65_0 rfl) rfl (lt_nil)))))) ?_
        refine pl_w1 5 (by kernel_rfl) rfl rfl (pl_fire rfl rfl rfl (by kernel_rfl) ?_)
        refine oj_append (xs := ([] : List Am.BidV)) (c := 0) el63 (fun _ => rfl) Au.encBi_one rfl rfl rfl (reads_sl) (by unfold maxLen; simp only [List.length_nil, List.length_append, List.length_cons]; omega) (by simp only [List.length_nil, List.length_append, List.length_cons]; omega) rfl (fun A27 c27 => ?_)
        refine oj_nil ?_
        refine ej_pl (lt_y (y_loadN Tryz.isAgg67 Tryz.sizeOf67 rfl) rfl (lt_w (by kernel_rfl) (lt_y (y_fa fa65_2 rfl) rfl (lt_y (y_loadN Tryz.isAgg62 Tryz.sizeOf62 rfl) rfl (lt_y (y_fa0 fa65_0 rfl) rfl (lt_nil)))))) ?_
        refine pl_w1 8 (by kernel_rfl) rfl rfl (pl_fire rfl rfl rfl (by kernel_rfl) ?_)
        refine oj_append  el63 (fun _ => rfl) Au.encBi_one rfl rfl rfl (reads_lit [x] (fun _ => rfl) rfl) (by unfold maxLen; simp only [List.length_nil, List.length_append, List.length_cons]; omega) (by simp only [List.length_nil, List.length_append, List.length_cons]; omega) rfl (fun A30 c30 => ?_)
        refine oj_nil ?_
        refine ej_pl (lt_y (y_loadN Tryz.isAgg67 Tryz.sizeOf67 rfl) rfl (lt_y (y_load1 Tryz.isAgg63 rfl rfl) rfl (lt_y (y_fa fa65_2 rfl) rfl (lt_y (y_loadN Tryz.isAgg62 Tryz.sizeOf62 rfl) rfl (lt_y (y_fa0 fa65_0 rfl) rfl (lt_nil)))))) ?_
        refine pl_y 9 rfl (y_call Tryz.call19 rfl (fun w hp => Au.k_Sell st rv lad Al cl ((([] : List Am.BidV) ++ bs) ++ [x]) A30 c30 w hp.rd (hp.rdO (fun _ => rfl) (by unfold maxLen; simp; omega)))) rfl rfl rfl rfl (by kernel_rfl) ?_
        refine pl_y 10 rfl (y_move rfl) rfl rfl rfl rfl (by kernel_rfl) ?_
        refine pl_y 11 rfl (y_extract rfl rfl) rfl rfl rfl rfl (by kernel_rfl) ?_
        refine pl_y 12 rfl (y_extract rfl rfl) rfl rfl rfl rfl (by kernel_rfl) ?_
        refine pl_w1 14 (by kernel_rfl) rfl rfl (pl_fire rfl rfl rfl (by kernel_rfl) ?_)
        refine oj_store rfl rfl rfl rfl Tryz.sizeOf69 rfl ?_
        refine oj_nil ?_
        refine ej_pl (lt_y (y_extract rfl rfl) rfl (lt_w (by kernel_rfl) (lt_w (by kernel_rfl) (lt_w (by kernel_rfl) (lt_w (by kernel_rfl) (lt_w (by kernel_rfl) (lt_w (by kernel_rfl) (lt_w (by kernel_rfl) (lt_w (by kernel_rfl) (lt_nil)))))))))) ?_
        refine pl_y 15 rfl (y_assign rfl) rfl rfl rfl rfl (by kernel_rfl) ?_
        refine pl_end (by kernel_rfl) ?_
        refine ej_takes [ownB b7 (cellsB 69 [.int .i64 (Au.SellV st rv lad ((([] : List Am.BidV) ++ bs) ++ [x])).winner, .int .i64 (Au.SellV st rv lad ((([] : List Am.BidV) ++ bs) ++ [x])).price]), ownB b5 (cellsB 69 [.int .i64 (Au.SellV st rv lad bs).winner, .int .i64 (Au.SellV st rv lad bs).price]), ownB b3 (cellsB 67 [.int .i64 x.who, .int .i64 x.way, .int .i64 x.most]), ownB b2 (cellsB 65 [.int .i64 st, .int .i64 rv, .slice Al lad.length cl, .slice Ap ps.length cp, .slice Ab bs.length cb])] ?_
        refine ej_eqO [ownB b7 (cellsB 69 [.int .i64 (Au.SellV st rv lad (bs ++ [x])).winner, .int .i64 (Au.SellV st rv lad (bs ++ [x])).price]), ownB b5 (cellsB 69 [.int .i64 (Au.SellV st rv lad bs).winner, .int .i64 (Au.SellV st rv lad bs).price]), ownB b3 (cellsB 67 [.int .i64 x.who, .int .i64 x.way, .int .i64 x.most]), ownB b2 (cellsB 65 [.int .i64 st, .int .i64 rv, .slice Al lad.length cl, .slice Ap ps.length cp, .slice Ab bs.length cb])] rfl ?_
        exact ej_ct b7 trivial ⟨rfl, rfl, rfl, rfl, rfl, rfl, trivial⟩
  · rintro b7 -
    dsimp only [List.cons_append, List.nil_append]
    refine cj_seq (cj_seq ?_)
    refine cj_regionG (gj_step (y_move rfl) rfl rfl rfl (gj_step (y_neq rfl rfl) rfl rfl rfl (gj_step (y_move rfl) rfl rfl rfl (gj_g 2 36 38 rfl rfl rfl rfl (fun hg36 => gj_yes rfl rfl rfl (y_move rfl) rfl rfl (gj_yes rfl rfl rfl (y_neq rfl rfl) rfl rfl (gj_nil rfl))) (gj_step (y_or rfl rfl rfl) rfl rfl rfl (gj_step (y_move rfl) rfl rfl rfl (gj_g 3 40 43 rfl rfl rfl rfl (fun hg40 => gj_yes rfl rfl rfl (y_fa0 fa69_0 rfl) rfl rfl (gj_yes rfl rfl rfl (y_load1 Tryz.isAgg3 rfl rfl) rfl rfl (gj_yes rfl rfl rfl (y_eql rfl rfl) rfl rfl (gj_nil rfl)))) (gj_step (y_or rfl rfl rfl) rfl rfl rfl (gj_nil ?_)))))))))
    refine ej_th ?_
    refine cj_cond rfl (fun h44 => ?_) (fun h44 => ?_)
    · have h44b := h44
      try simp only [sxb] at h44
      refine cj_seq ?_
      refine cj_regionG ?_
      refine gj_step (y_call Tryz.call20 rfl (fun w hp => k_sold07 w)) rfl rfl rfl ?_
      refine gj_step (y_assign rfl) rfl rfl rfl (?_)
      refine gj_nil ?_
      refine ej_th (cj_ret (ej_then_ret ?_))
      exact ej_ret1 rfl Tryz.results5 rfl (fun w' hp => ⟨rfl, hp.below⟩)
    · have h44b := h44
      try simp only [sxb] at h44
      have hz : (Au.SellE st rv lad bs) = 0 ∧ (Au.SellE st rv lad (bs ++ [x])) = 0 ∧ (Au.SellV st rv lad bs).winner ≠ -1 := by
        simp only [Bool.or_eq_false_iff, bne_eq_false_iff_eq, beq_eq_false_iff_ne] at h44b
        exact ⟨h44b.1.1, h44b.1.2, h44b.2⟩
      obtain ⟨hz1, hz2, hz3⟩ := hz
      obtain ⟨hmw, hmp⟩ := sold_more (b := x) hz1 hz2 hz3
      obtain ⟨hp0, _⟩ := sold_bd hz1 hz3
      obtain ⟨_, hp2⟩ := sold_bd hz2 hmw
      have hee := porE_eq (isW := Pl.isW) (a := (Au.SellV st rv lad bs).price) (b := (Au.SellV st rv lad (bs ++ [x])).price) ⟨hp0, by omega⟩ ⟨by omega, by omega⟩ ps
      refine cj_skip (ej_th (cj_seq (cj_region ?_)))
      refine oj_step (y_fa fa69_1 rfl) rfl rfl rfl ?_
      refine oj_step (y_load1 Tryz.isAgg3 rfl rfl) rfl rfl rfl ?_
      refine oj_step (y_fa fa65_1 rfl) rfl rfl rfl ?_
      refine oj_step (y_load1 Tryz.isAgg22 rfl rfl) rfl rfl rfl ?_
      refine oj_callR (X := { z : Option Addr × Nat × List Pu.PorV × Nat × Nat // z.2.2.1.map Pu.PorV.p = Pu.porL Pl.isW (Au.SellV st rv lad bs).price ps }) (fun z => .tuple #[.slice z.1.1 z.1.2.2.1.length z.1.2.1, .int .i64 (Pu.porE Pl.isW (Au.SellV st rv lad bs).price ps)]) (fun z => [sl (fun b => z.1.2.2.2.1 ≤ b ∧ b < z.1.2.2.2.2) 3 Pu.encPo z.1.1 z.1.2.2.1, Pu.rowsP (fun b => z.1.2.2.2.1 ≤ b ∧ b < z.1.2.2.2.2) z.1.2.2.1]) Tryz.call6 rfl (fun w1 hp => (Pu.k_Portions (Au.SellV st rv lad bs).price ps Ap cp w1 hp.rd hcap (fun p h => (hgp p h).mono hp.below)).mono fun e w2 ⟨A, c, out, h1, h2, h3, h4, h5⟩ => ⟨⟨(A, c, out, w1.heap.size, w2.heap.size), h5⟩, h1, h2, fun g hg => by
        simp only [List.mem_cons, List.mem_nil_iff, or_false] at hg
        rcases hg with rfl | rfl
        · exact ⟨h3, fun b hb => .inr hb⟩
        · exact ⟨h4, fun b hb => .inr hb⟩⟩) rfl ?_
      rintro ⟨⟨A51, c51, o1, n51, m51⟩, ho1⟩
      have ho1 : o1.map Pu.PorV.p = Pu.porL Pl.isW (Au.SellV st rv lad bs).price ps := ho1
      dsimp only [List.cons_append, List.nil_append]
      refine oj_step (y_move rfl) rfl rfl rfl ?_
      refine oj_step (y_extract rfl rfl) rfl rfl rfl ?_
      refine oj_step (y_extract rfl rfl) rfl rfl rfl ?_
      refine oj_step (y_assign rfl) rfl rfl rfl ?_
      refine oj_step (y_assign rfl) rfl rfl rfl ?_
      refine oj_nil ?_
      refine ej_th (cj_seq (cj_region ?_))
      refine oj_step (y_fa fa69_1 rfl) rfl rfl rfl ?_
      refine oj_step (y_load1 Tryz.isAgg3 rfl rfl) rfl rfl rfl ?_
      refine oj_step (y_fa fa65_1 rfl) rfl rfl rfl ?_
      refine oj_step (y_load1 Tryz.isAgg22 rfl rfl) rfl rfl rfl ?_
      refine oj_callR (X := { z : Option Addr × Nat × List Pu.PorV × Nat × Nat // z.2.2.1.map Pu.PorV.p = Pu.porL Pl.isW (Au.SellV st rv lad (bs ++ [x])).price ps }) (fun z => .tuple #[.slice z.1.1 z.1.2.2.1.length z.1.2.1, .int .i64 (Pu.porE Pl.isW (Au.SellV st rv lad (bs ++ [x])).price ps)]) (fun z => [sl (fun b => z.1.2.2.2.1 ≤ b ∧ b < z.1.2.2.2.2) 3 Pu.encPo z.1.1 z.1.2.2.1, Pu.rowsP (fun b => z.1.2.2.2.1 ≤ b ∧ b < z.1.2.2.2.2) z.1.2.2.1]) Tryz.call6 rfl (fun w1 hp => (Pu.k_Portions (Au.SellV st rv lad (bs ++ [x])).price ps Ap cp w1 hp.rd hcap (fun p h => (hgp p h).mono hp.below)).mono fun e w2 ⟨A, c, out, h1, h2, h3, h4, h5⟩ => ⟨⟨(A, c, out, w1.heap.size, w2.heap.size), h5⟩, h1, h2, fun g hg => by
        simp only [List.mem_cons, List.mem_nil_iff, or_false] at hg
        rcases hg with rfl | rfl
        · exact ⟨h3, fun b hb => .inr hb⟩
        · exact ⟨h4, fun b hb => .inr hb⟩⟩) rfl ?_
      rintro ⟨⟨A59, c59, o2, n59, m59⟩, ho2⟩
      have ho2 : o2.map Pu.PorV.p = Pu.porL Pl.isW (Au.SellV st rv lad (bs ++ [x])).price ps := ho2
      dsimp only [List.cons_append, List.nil_append]
      refine oj_step (y_move rfl) rfl rfl rfl ?_
      refine oj_step (y_extract rfl rfl) rfl rfl rfl ?_
      refine oj_step (y_extract rfl rfl) rfl rfl rfl ?_
      refine oj_step (y_assign rfl) rfl rfl rfl ?_
      refine oj_step (y_assign rfl) rfl rfl rfl ?_
      refine oj_nil ?_
      refine ej_th (cj_seq (cj_seq ?_))
      have hll : o1.length = o2.length := by
        have e1 := congrArg List.length ho1
        have e2 := congrArg List.length ho2
        rw [List.length_map, por_len hp0] at e1
        rw [List.length_map, por_len (by omega), ← hee] at e2
        omega
      have hlm : o1.length ≤ 9223372036854775807 := by
        have e1 := congrArg List.length ho1
        rw [List.length_map, por_len hp0] at e1
        have := hps.len
        split at e1 <;> omega
      refine cj_regionG (gj_step (y_move rfl) rfl rfl rfl (gj_step (y_move rfl) rfl rfl rfl (gj_step (y_neq rfl rfl) rfl rfl rfl (gj_step (y_move rfl) rfl rfl rfl (gj_g 3 65 68 rfl rfl rfl rfl (fun hg65 => gj_yes rfl rfl rfl (y_fa0 fa69_0 rfl) rfl rfl (gj_yes rfl rfl rfl (y_load1 Tryz.isAgg3 rfl rfl) rfl rfl (gj_yes rfl rfl rfl (y_eql rfl rfl) rfl rfl (gj_nil rfl)))) (gj_step (y_or rfl rfl rfl) rfl rfl rfl (gj_step (y_move rfl) rfl rfl rfl (gj_g 5 70 75 rfl rfl rfl rfl (fun hg70 => gj_yes rfl rfl rfl (y_fa fa69_1 rfl) rfl rfl (gj_yes rfl rfl rfl (y_load1 Tryz.isAgg3 rfl rfl) rfl rfl (gj_yes rfl rfl rfl (y_fa fa69_1 rfl) rfl rfl (gj_yes rfl rfl rfl (y_load1 Tryz.isAgg3 rfl rfl) rfl rfl (gj_yes rfl rfl rfl (y_lss rfl rfl) rfl rfl (gj_nil rfl)))))) (gj_step (y_or rfl rfl rfl) rfl rfl rfl (gj_step (y_move rfl) rfl rfl rfl (gj_g 5 77 82 rfl rfl rfl rfl (fun hg77 => gj_yes rfl rfl rfl (y_move rfl) rfl rfl (gj_yes rfl rfl rfl (y_lenA Tryz.underlying26 rfl) rfl rfl (gj_yes rfl rfl rfl (y_move rfl) rfl rfl (gj_yes rfl rfl rfl (y_lenA Tryz.underlying26 rfl) rfl rfl (gj_yes rfl rfl rfl (y_neq rfl rfl) rfl rfl (gj_nil rfl)))))) (gj_step (y_or rfl rfl rfl) rfl rfl rfl (gj_nil ?_)))))))))))))
      refine ej_th ?_
      refine cj_cond rfl (fun h83 => ?_) (fun h83 => ?_)
      · exfalso
        simp only [Bool.or_eq_true, bne_iff_ne, beq_iff_eq, decide_eq_true_iff] at h83
        omega
      · have h83b := h83
        try simp only [sxb] at h83
        refine cj_skip (ej_th (cj_seq (cj_seq ?_)))
        refine cj_regionG (gj_step (y_assign rfl) rfl rfl rfl (gj_nil ?_))
        refine ej_th (cj_block ?_)
        refine cj_lpi (X := Nat) [(9, _), (10, _)] (fun i => i ≤ o1.length) (fun i => [(11, .int .i64 (i : Nat))]) (fun i => []) (fun i => [sl (fun b => n59 ≤ b ∧ b < m59) 3 Pu.encPo A59 o2, Pu.rowsP (fun b => n59 ≤ b ∧ b < m59) o2, sl (fun b => n51 ≤ b ∧ b < m51) 3 Pu.encPo A51 o1, Pu.rowsP (fun b => n51 ≤ b ∧ b < m51) o1]) (fun i => o1.length - i) 0 (Nat.zero_le _) ⟨rfl, rfl, rfl, trivial⟩ ?_
        rintro i hi
        dsimp only [List.cons_append, List.nil_append]
        refine cj_seq (cj_seq ?_)
        refine cj_regionG (gj_step (y_move rfl) rfl rfl rfl (gj_step (y_move rfl) rfl rfl rfl (gj_step (y_lenA Tryz.underlying26 rfl) rfl rfl rfl (gj_step (y_lss rfl rfl) rfl rfl rfl (gj_nil ?_)))))
        refine ej_th ?_
        refine cj_cond rfl (fun h87 => ?_) (fun h87 => ?_)
        · have h87b := h87
          try simp only [sxb] at h87
          obtain ⟨y1, hy1⟩ : ∃ y1, o1[i]? = some y1 := ⟨_, List.getElem?_eq_getElem (by omega)⟩
          obtain ⟨y2, hy2⟩ : ∃ y2, o2[i]? = some y2 := ⟨_, List.getElem?_eq_getElem (by omega)⟩
          obtain ⟨q0, q1, q2, q3, q4⟩ := por_more (isW := Pl.isW) (x := y1.p) (y := y2.p) hp0 hmp (by omega) (by rw [← ho1, List.getElem?_map, hy1]; rfl) (by rw [← ho2, List.getElem?_map, hy2]; rfl)
          have q0 : y1.paid.length ≤ 24 := q0
          have q1 : y1.paid.length = y2.paid.length := q1
          have q2 : y1.price ≤ y2.price := q2
          have q3 : y1.left ≤ y2.left := q3
          refine cj_addS (sl (fun b => n51 ≤ b ∧ b < m51) 1 enInt y1.A y1.paid) (fun w1 hp => ⟨(hp.shared _ (.tail _ (.tail _ (.tail _ (.head _))))).1 y1 (List.mem_of_getElem? hy1), fun b hb => ⟨(hp.shared _ (.tail _ (.tail _ (.tail _ (.head _))))).2.1 b hb, fun g hg => (hp.shared _ (.tail _ (.tail _ (.tail _ (.head _))))).2.2 g hg b hb⟩⟩) ?_
          refine cj_addS (sl (fun b => n59 ≤ b ∧ b < m59) 1 enInt y2.A y2.paid) (fun w1 hp => ⟨(hp.shared _ (.tail _ (.tail _ (.head _)))).1 y2 (List.mem_of_getElem? hy2), fun b hb => ⟨(hp.shared _ (.tail _ (.tail _ (.head _)))).2.1 b hb, fun g hg => (hp.shared _ (.tail _ (.tail _ (.head _)))).2.2 g hg b hb⟩⟩) ?_
          refine cj_skip (ej_th (cj_seq (cj_block (cj_seq (cj_seq ?_)))))
          refine cj_draw (by kernel_rfl) (by kernel_rfl) (gj_step (y_move rfl) rfl rfl rfl (gj_step (y_move rfl) rfl rfl rfl (gj_step (y_ixR (reads_sl) Tryz.underlying26 Tryz.sizeOf32 rfl rfl (⟨by omega, by omega⟩)) rfl rfl rfl (gj_step (y_faE fa32_1 rfl) rfl rfl rfl (gj_step (y_ld1 (reads_sl) Tryz.isAgg23 rfl (hy1) rfl) rfl rfl rfl (gj_step (y_lenA Tryz.underlying23 rfl) rfl rfl rfl (gj_step (y_move rfl) rfl rfl rfl (gj_step (y_move rfl) rfl rfl rfl (gj_step (y_ixR (reads_sl) Tryz.underlying26 Tryz.sizeOf32 rfl rfl (⟨by omega, by omega⟩)) rfl rfl rfl (gj_step (y_faE fa32_1 rfl) rfl rfl rfl (gj_step (y_ld1 (reads_sl) Tryz.isAgg23 rfl (hy2) rfl) rfl rfl rfl (gj_step (y_lenA Tryz.underlying23 rfl) rfl rfl rfl (gj_step (y_neq rfl rfl) rfl rfl rfl (gj_step (y_move rfl) rfl rfl rfl (gj_g 11 103 114 rfl rfl rfl rfl (fun hg103 => gj_yes rfl rfl rfl (y_move rfl) rfl rfl (gj_yes rfl rfl rfl (y_move rfl) rfl rfl (gj_yes rfl rfl rfl (y_ixR (reads_sl) Tryz.underlying26 Tryz.sizeOf32 rfl rfl (⟨by omega, by omega⟩)) rfl rfl (gj_yes rfl rfl rfl (y_faE fa32_0 rfl) rfl rfl (gj_yes rfl rfl rfl (y_ld1 (reads_sl) Tryz.isAgg3 rfl (hy2) rfl) rfl rfl (gj_yes rfl rfl rfl (y_move rfl) rfl rfl (gj_yes rfl rfl rfl (y_move rfl) rfl rfl (gj_yes rfl rfl rfl (y_ixR (reads_sl) Tryz.underlying26 Tryz.sizeOf32 rfl rfl (⟨by omega, by omega⟩)) rfl rfl (gj_yes rfl rfl rfl (y_faE fa32_0 rfl) rfl rfl (gj_yes rfl rfl rfl (y_ld1 (reads_sl) Tryz.isAgg3 rfl (hy1) rfl) rfl rfl (gj_yes rfl rfl rfl (y_lss rfl rfl) rfl rfl (gj_nil rfl)))))))))))) (gj_step (y_or rfl rfl rfl) rfl rfl rfl (gj_step (y_move rfl) rfl rfl rfl (gj_g 11 116 127 rfl rfl rfl rfl (fun hg116 => gj_yes rfl rfl rfl (y_move rfl) rfl rfl (gj_yes rfl rfl rfl (y_move rfl) rfl rfl (gj_yes rfl rfl rfl (y_ixR (reads_sl) Tryz.underlying26 Tryz.sizeOf32 rfl rfl (⟨by omega, by omega⟩)) rfl rfl (gj_yes rfl rfl rfl (y_faE fa32_2 rfl) rfl rfl (gj_yes rfl rfl rfl (y_ld1 (reads_sl) Tryz.isAgg3 rfl (hy2) rfl) rfl rfl (gj_yes rfl rfl rfl (y_move rfl) rfl rfl (gj_yes rfl rfl rfl (y_move rfl) rfl rfl (gj_yes rfl rfl rfl (y_ixR (reads_sl) Tryz.underlying26 Tryz.sizeOf32 rfl rfl (⟨by omega, by omega⟩)) rfl rfl (gj_yes rfl rfl rfl (y_faE fa32_2 rfl) rfl rfl (gj_yes rfl rfl rfl (y_ld1 (reads_sl) Tryz.isAgg3 rfl (hy1) rfl) rfl rfl (gj_yes rfl rfl rfl (y_lss rfl rfl) rfl rfl (gj_nil rfl)))))))))))) (gj_step (y_or rfl rfl rfl) rfl rfl rfl (gj_nil ?_))))))))))))))))))))
          refine ej_th ?_
          refine cj_cond rfl (fun h128 => ?_) (fun h128 => ?_)
          · exfalso
            simp only [Bool.or_eq_true, bne_iff_ne, decide_eq_true_iff] at h128
            omega
          · have h128b := h128
            try simp only [sxb] at h128
            refine cj_skip (ej_th (cj_seq ?_))
            refine cj_regionG (gj_step (y_assign rfl) rfl rfl rfl (gj_nil ?_))
            refine ej_th (cj_block ?_)
            refine cj_lpi (X := Nat) [(11, _), (9, _), (10, _)] (fun j => j ≤ y1.paid.length) (fun j => [(12, .int .i64 (j : Nat))]) (fun j => []) (fun j => [sl (fun b => n59 ≤ b ∧ b < m59) 1 enInt y2.A y2.paid, sl (fun b => n51 ≤ b ∧ b < m51) 1 enInt y1.A y1.paid, sl (fun b => n59 ≤ b ∧ b < m59) 3 Pu.encPo A59 o2, Pu.rowsP (fun b => n59 ≤ b ∧ b < m59) o2, sl (fun b => n51 ≤ b ∧ b < m51) 3 Pu.encPo A51 o1, Pu.rowsP (fun b => n51 ≤ b ∧ b < m51) o1]) (fun j => y1.paid.length - j) 0 (Nat.zero_le _) ⟨rfl, rfl, rfl, rfl, trivial⟩ ?_
            rintro j hj
            dsimp only [List.cons_append, List.nil_append]
            refine cj_seq (cj_seq ?_)
            refine cj_regionG (gj_step (y_move rfl) rfl rfl rfl (gj_step (y_move rfl) rfl rfl rfl (gj_step (y_move rfl) rfl rfl rfl (gj_step (y_ixR (reads_sl) Tryz.underlying26 Tryz.sizeOf32 rfl rfl (⟨by omega, by omega⟩)) rfl rfl rfl (gj_step (y_faE fa32_1 rfl) rfl rfl rfl (gj_step (y_ld1 (reads_sl) Tryz.isAgg23 rfl (hy1) rfl) rfl rfl rfl (gj_step (y_lenA Tryz.underlying23 rfl) rfl rfl rfl (gj_step (y_lss rfl rfl) rfl rfl rfl (gj_nil ?_)))))))))
            refine ej_th ?_
            refine cj_cond rfl (fun h136 => ?_) (fun h136 => ?_)
            · have h136b := h136
              try simp only [sxb] at h136
              obtain ⟨u, hu⟩ : ∃ u, y1.paid[j]? = some u := ⟨_, List.getElem?_eq_getElem (by omega)⟩
              obtain ⟨v, hv⟩ : ∃ v, y2.paid[j]? = some v := ⟨_, List.getElem?_eq_getElem (by omega)⟩
              have q5 : u ≤ v := q4 j u v hu hv
              refine cj_skip (ej_th (cj_seq (cj_block (cj_seq ?_))))
              refine cj_draw (by kernel_rfl) (by kernel_rfl) (gj_step (y_move rfl) rfl rfl rfl (gj_step (y_move rfl) rfl rfl rfl (gj_step (y_ixR (reads_sl) Tryz.underlying26 Tryz.sizeOf32 rfl rfl (⟨by omega, by omega⟩)) rfl rfl rfl (gj_step (y_faE fa32_1 rfl) rfl rfl rfl (gj_step (y_ld1 (reads_sl) Tryz.isAgg23 rfl (hy2) rfl) rfl rfl rfl (gj_step (y_move rfl) rfl rfl rfl (gj_step (y_ixR (reads_sl) Tryz.underlying23 Tryz.sizeOf3 rfl rfl (⟨by omega, by omega⟩)) rfl rfl rfl (gj_step (y_ld0 (reads_sl) Tryz.isAgg3 rfl (hv) rfl) rfl rfl rfl (gj_step (y_move rfl) rfl rfl rfl (gj_step (y_move rfl) rfl rfl rfl (gj_step (y_ixR (reads_sl) Tryz.underlying26 Tryz.sizeOf32 rfl rfl (⟨by omega, by omega⟩)) rfl rfl rfl (gj_step (y_faE fa32_1 rfl) rfl rfl rfl (gj_step (y_ld1 (reads_sl) Tryz.isAgg23 rfl (hy1) rfl) rfl rfl rfl (gj_step (y_move rfl) rfl rfl rfl (gj_step (y_ixR (reads_sl) Tryz.underlying23 Tryz.sizeOf3 rfl rfl (⟨by omega, by omega⟩)) rfl rfl rfl (gj_step (y_ld0 (reads_sl) Tryz.isAgg3 rfl (hu) rfl) rfl rfl rfl (gj_step (y_lss rfl rfl) rfl rfl rfl (gj_nil ?_))))))))))))))))))
              refine ej_th ?_
              refine cj_cond rfl (fun h155 => ?_) (fun h155 => ?_)
              · exfalso
                simp only [decide_eq_true_iff] at h155
                omega
              · have h155b := h155
                try simp only [sxb] at h155
                refine cj_skip (ej_blk (ej_th ?_))
                refine cj_regionG (gj_step (y_move rfl) rfl rfl rfl (gj_step (y_add rfl rfl (by omega)) rfl rfl rfl (gj_step (y_assign rfl) rfl rfl rfl (gj_nil ?_))))
                exact ej_nx (j + 1) (by omega) (by omega) ⟨rfl, rfl, rfl, rfl, trivial⟩
            · have h136b := h136
              try simp only [sxb] at h136
              refine cj_exit (ej_then_exit (ej_then_exit (ej_blk_hit (ej_blk (ej_th ?_)))))
              refine cj_regionG (gj_step (y_move rfl) rfl rfl rfl (gj_step (y_add rfl rfl (by omega)) rfl rfl rfl (gj_step (y_assign rfl) rfl rfl rfl (gj_nil ?_))))
              exact ej_nx (i + 1) (by omega) (by omega) ⟨rfl, rfl, rfl, trivial⟩
        · have h87b := h87
          try simp only [sxb] at h87
          refine cj_exit (ej_then_exit (ej_then_exit (ej_blk_hit (ej_th (cj_seq ?_)))))
          refine cj_regionG ?_
          refine gj_step (y_call Tryz.call20 rfl (fun w hp => k_sold07 w)) rfl rfl rfl ?_
          refine gj_step (y_assign rfl) rfl rfl rfl (?_)
          refine gj_nil ?_
          refine ej_th (cj_ret ?_)
          exact ej_ret1 rfl Tryz.results5 rfl (fun w' hp => ⟨rfl, hp.below⟩)

end Go.Proofs.YtppfniekcgnmjaaGreat.To
