/- Texts of ours, joined: 5 of them. Conditions: none. -/
import Derived.Test.YtehmifpofpifkaaZe
namespace Go.Proofs.Ytehmifpofpifkaa
open Go.Sx Go.RowKit Am
set_option maxRecDepth 20000
theorem k_Room (st rv : Int) (lad : List RiseV) (Al : Option Addr) (cl : Nat) (bs : List BidV) (Ab : Option Addr) (cb : Nat) (w : World) (hlad : Rd w 2 encRi Al lad) (hbs : Rd w 3 encBi Ab bs) : Calls Try.prog 24 #[.agg #[.int .i64 st, .int .i64 rv, .slice Al lad.length cl], .slice Ab bs.length cb] w (fun e w' => ∃ A c, e = .returned (.tuple #[.slice A (RoomL st rv lad bs).length c, .int .i64 (SellE st rv lad bs)]) ∧ Grow w w' ∧ Res w w' 5 encLe A (RoomL st rv lad bs)) := by
  have hlen := hbs.len
  refine enter_pure (args := [.agg #[.int .i64 st, .int .i64 rv, .slice Al lad.length cl], .slice Ab bs.length cb]) [sl (fun b => b < w.heap.size) 2 encRi Al lad, sl (fun b => b < w.heap.size) 3 encBi Ab bs] Try.func24 rfl (by rw [Try.ntmps24]; simp) (fun g hg => by simp at hg; rcases hg with rfl | rfl; exact ⟨hlad, fun _ h => h⟩; exact ⟨hbs, fun _ h => h⟩) ?_
  refine cj_seq (cj_region ?_)
  refine oj_box rfl rfl rfl (fun b2 => ?_)
  refine oj_step (y_assign rfl) rfl rfl rfl ?_
  refine oj_step (y_assign rfl) rfl rfl rfl ?_
  refine oj_nil ?_
  refine ej_th (cj_seq (cj_seq ?_))
  refine cj_regionG ?_
  refine gj_step (y_loadN Try.isAgg24 Try.sizeOf24 rfl) rfl rfl rfl (?_)
  refine gj_step (y_call Try.call17 rfl (fun w hp => k_Check st rv lad Al cl w hp.rd)) rfl rfl rfl ?_
  refine gj_step (y_assign rfl) rfl rfl rfl (?_)
  refine gj_nil ?_
  refine ej_th (cj_seq ?_)
  refine cj_regionG (gj_step (y_move rfl) rfl rfl rfl (gj_step (y_neq rfl rfl) rfl rfl rfl (gj_nil ?_)))
  refine ej_th ?_
  refine cj_cond rfl (fun h17 => ?_) (fun h17 => ?_)
  · have h17b := h17
    try simp only [sxb] at h17
    have hno := lotE_no h17b
    refine cj_seq ?_
    refine cj_regionG (gj_step (y_move rfl) rfl rfl rfl (gj_step (y_assign rfl) rfl rfl rfl (gj_step (y_assign rfl) rfl rfl rfl (gj_nil ?_))))
    refine ej_th (cj_ret (ej_then_ret ?_))
    obtain ⟨e1, e2⟩ := room_no (bs := bs) hno
    exact ej_ret2 rfl Try.results24 rfl rfl (fun w' hp => ⟨none, 0, by rw [e1, e2, lotE, hno]; rfl, hp.below, by rw [e1]; exact Res.nil⟩)
  · have h17b := h17
    try simp only [sxb] at h17
    have hyes := lotE_0 h17b
    have hok := lot_ok hyes
    refine cj_skip (ej_th (cj_seq (cj_seq ?_)))
    refine cj_regionG ?_
    refine gj_step (y_move rfl) rfl rfl rfl (?_)
    refine gj_step (y_call Try.call53 rfl (fun w hp => k_bids bs Ab cb w hp.rd)) rfl rfl rfl ?_
    refine gj_step (y_not rfl) rfl rfl rfl (?_)
    refine gj_nil ?_
    refine ej_th ?_
    refine cj_cond rfl (fun h21 => ?_) (fun h21 => ?_)
    · have h21b := h21
      try simp only [sxb] at h21
      have hbn := not_t h21b
      refine cj_seq ?_
      refine cj_regionG (gj_step (y_assign rfl) rfl rfl rfl (gj_step (y_assign rfl) rfl rfl rfl (gj_nil ?_)))
      refine ej_th (cj_ret (ej_then_ret ?_))
      obtain ⟨e1, e2⟩ := room_no2 hyes hbn
      exact ej_ret2 rfl Try.results24 rfl rfl (fun w' hp => ⟨none, 0, by rw [e1, e2]; rfl, hp.below, by rw [e1]; exact Res.nil⟩)
    · have h21b := h21
      try simp only [sxb] at h21
      have hby := not_f h21b
      have hbo := bids_ok hby
      obtain ⟨e1, e2⟩ := room_yes hyes hby
      refine cj_skip (ej_th (cj_seq (cj_region ?_)))
      refine oj_step (y_loadN Try.isAgg24 Try.sizeOf24 rfl) rfl rfl rfl ?_
      refine oj_step (y_build (cs := [.int .i64 st, .int .i64 rv, .slice Al lad.length cl]) st85 rfl (by kernel_rfl)) rfl rfl rfl ?_
      refine oj_step (y_build (cs := [.int .i64 (-1), .int .i64 0, .int .i64 0, .int .i64 0, .int .i64 0]) st41 rfl (by kernel_rfl)) rfl rfl rfl ?_
      refine oj_step (y_build (cs := [.int .i64 st, .int .i64 rv, .slice Al lad.length cl, .int .i64 (-1), .int .i64 0, .int .i64 0, .int .i64 0, .int .i64 0]) st102 rfl (by kernel_rfl)) rfl rfl rfl ?_
      refine oj_box rfl rfl rfl (fun b26 => ?_)
      refine oj_step (y_assign rfl) rfl rfl rfl ?_
      refine oj_nil ?_
      refine ej_th (cj_seq ?_)
      refine cj_regionG (gj_step (y_move rfl) rfl rfl rfl (gj_step (y_makeFunc rfl rfl) rfl rfl rfl (gj_step (y_assign rfl) rfl rfl rfl (gj_nil ?_))))
      refine ej_th (cj_seq ?_)
      refine cj_regionG (gj_step (y_assign rfl) rfl rfl rfl (gj_nil ?_))
      refine ej_th (cj_seq (cj_seq ?_))
      refine cj_regionG (gj_step (y_move rfl) rfl rfl rfl (gj_step (y_lenA Try.underlying32 rfl) rfl rfl rfl (gj_step (y_move rfl) rfl rfl rfl (gj_nil ?_))))
      refine ej_th (cj_block ?_)
      refine cj_ownNil 41 5 encLe ?_
      refine cj_eqO [ow 41 5 encLe none 0 [], ownB b26 (cellsB 102 [.int .i64 st, .int .i64 rv, .slice Al lad.length cl, .int .i64 lead0.who, .int .i64 lead0.limit, .int .i64 lead0.way, .int .i64 lead0.second, .int .i64 lead0.price]), ownB b2 (cellsB 24 [.int .i64 st, .int .i64 rv, .slice Al lad.length cl])] rfl ?_
      refine cj_lpi (X := Nat × LeadV × Option Addr × Nat × List LeadV) [(4, _), (5, _), (7, _), (8, _), (29, _), (30, _)] (fun ⟨k, x, A1, c1, outs⟩ => k ≤ bs.length ∧ outs.length = k ∧ x = roomE (rgL lad st) st (bs.take k) ∧ outs ++ roomG (rgL lad st) st x (bs.drop k) = roomG (rgL lad st) st lead0 bs) (fun ⟨k, x, A1, c1, outs⟩ => [(9, .slice A1 outs.length c1), (31, .int .i64 k)]) (fun ⟨k, x, A1, c1, outs⟩ => [ow 41 5 encLe A1 c1 outs, ownB b26 (cellsB 102 [.int .i64 st, .int .i64 rv, .slice Al lad.length cl, .int .i64 x.who, .int .i64 x.limit, .int .i64 x.way, .int .i64 x.second, .int .i64 x.price]), ownB b2 (cellsB 24 [.int .i64 st, .int .i64 rv, .slice Al lad.length cl])]) (fun ⟨k, x, A1, c1, outs⟩ => [sl (fun b => b < w.heap.size) 2 encRi Al lad, sl (fun b => b < w.heap.size) 3 encBi Ab bs]) (fun ⟨k, x, A1, c1, outs⟩ => bs.length - k) (0, lead0, none, 0, []) (⟨Nat.zero_le _, rfl, rfl, rfl⟩) ⟨rfl, rfl, rfl, rfl, rfl, rfl, rfl, rfl, trivial⟩ ?_
      rintro ⟨k, x, A1, c1, outs⟩ ⟨hk, holn, hxe, hout⟩
      dsimp only [List.cons_append, List.nil_append]
      refine cj_seq ?_
      refine cj_regionG (gj_step (y_lss rfl rfl) rfl rfl rfl (gj_nil ?_))
      refine ej_th (cj_seq ?_)
      refine cj_cond rfl (fun h32 => ?_) (fun h32 => ?_)
      · have h32b := h32
        try simp only [sxb] at h32
        obtain ⟨b, hx⟩ : ∃ b, bs[k]? = some b := ⟨_, List.getElem?_eq_getElem (by omega)⟩
        rw [roomG_drop (rgL lad st) st bs k b x hx] at hout
        have hrt := roomE_take (rgL lad st) st bs k b hx
        rw [← hxe] at hrt
        refine cj_skip (ej_th (cj_seq (cj_block (cj_seq (cj_region ?_)))))
        refine oj_step (y_ixR (reads_sl) Try.underlying32 Try.sizeOf53 rfl rfl (⟨by omega, by omega⟩)) rfl rfl rfl ?_
        refine oj_step (y_ldW (reads_sl) Try.isAgg53 Try.sizeOf53 rfl (hx) (fun _ => rfl)) rfl rfl rfl ?_
        refine oj_alloc Try.zeroValue53 rfl rfl (fun b11 => ?_)
        refine oj_store rfl rfl rfl rfl Try.sizeOf53 rfl ?_
        refine oj_nil ?_
        refine ej_th ?_
        refine cj_cuti (X := Unit) [(9, _), (31, _), (4, _), (5, _), (7, _), (8, _), (29, _), (30, _)] ⟨rfl, rfl, rfl, rfl, rfl, rfl, rfl, rfl, trivial⟩ (fun _ => True) (fun _ => []) (fun _ => [ownB b11 (cellsB 53 [.int .i64 b.who, .int .i64 b.way, .int .i64 b.most]), ow 41 5 encLe A1 c1 outs, ownB b26 (cellsB 102 [.int .i64 st, .int .i64 rv, .slice Al lad.length cl, .int .i64 (roomS (rgL lad st) st x b).who, .int .i64 (roomS (rgL lad st) st x b).limit, .int .i64 (roomS (rgL lad st) st x b).way, .int .i64 (roomS (rgL lad st) st x b).second, .int .i64 (roomS (rgL lad st) st x b).price]), ownB b2 (cellsB 24 [.int .i64 st, .int .i64 rv, .slice Al lad.length cl])]) (fun _ => [sl (fun b => b < w.heap.size) 2 encRi Al lad, sl (fun b => b < w.heap.size) 3 encBi Ab bs]) ?_ ?_
        · refine cj_seq ?_
          refine cj_plan 12 (by kernel_rfl) (by kernel_rfl) ?_
          refine pl_y 0 rfl (y_move rfl) rfl rfl rfl rfl (by kernel_rfl) ?_
          refine pl_y 1 rfl (y_nil rfl) rfl rfl rfl rfl (by kernel_rfl) ?_
          refine pl_y 2 rfl (y_fa0 fa102_0 rfl) rfl rfl rfl rfl (by kernel_rfl) ?_
          refine pl_y 3 rfl (y_loadN Try.isAgg85 Try.sizeOf85 rfl) rfl rfl rfl rfl (by kernel_rfl) ?_
          refine pl_y 4 rfl (y_loadN Try.isAgg53 Try.sizeOf53 rfl) rfl rfl rfl rfl (by kernel_rfl) ?_
          refine pl_y 5 rfl (y_call Try.call63 rfl (fun w hp => k_offer st rv lad Al cl b w hp.rd hok)) rfl rfl rfl rfl (by kernel_rfl) ?_
          refine pl_y 6 rfl (y_move rfl) rfl rfl rfl rfl (by kernel_rfl) ?_
          refine pl_y 7 rfl (y_extract rfl rfl) rfl rfl rfl rfl (by kernel_rfl) ?_
          refine pl_y 8 rfl (y_extract rfl rfl) rfl rfl rfl rfl (by kernel_rfl) ?_
          refine pl_w1 9 (by kernel_rfl) rfl rfl (pl_fire rfl rfl rfl (by kernel_rfl) ?_)
          refine oj_alloc Try.zeroValue93 rfl rfl (fun b12 => ?_)
          refine oj_nil ?_
          refine ej_pl (lt_y (y_extract rfl rfl) rfl (lt_y (y_extract rfl rfl) rfl (lt_y (y_move rfl) rfl (lt_y (y_call Try.call63 rfl (fun w hp => k_offer st rv lad Al cl b w hp.rd hok)) rfl (lt_y (y_loadN Try.isAgg53 Try.sizeOf53 rfl) rfl (lt_y (y_loadN Try.isAgg85 Try.sizeOf85 rfl) rfl (lt_y (y_fa0 fa102_0 rfl) rfl (lt_y (y_nil rfl) rfl (lt_y (y_move rfl) rfl (lt_nil)))))))))) ?_
          refine pl_w1 10 (by kernel_rfl) rfl rfl (pl_fire rfl rfl rfl (by kernel_rfl) ?_)
          refine oj_store rfl rfl rfl rfl Try.sizeOf93 rfl ?_
          refine oj_nil ?_
          refine ej_pl (lt_y (y_extract rfl rfl) rfl (lt_w (by kernel_rfl) (lt_w (by kernel_rfl) (lt_w (by kernel_rfl) (lt_w (by kernel_rfl) (lt_w (by kernel_rfl) (lt_w (by kernel_rfl) (lt_w (by kernel_rfl) (lt_w (by kernel_rfl) (lt_nil)))))))))) ?_
          refine pl_y 11 rfl (y_assign rfl) rfl rfl rfl rfl (by kernel_rfl) ?_
          refine pl_end (by kernel_rfl) ?_
          refine ej_th (cj_seq ?_)
          refine cj_regionG (gj_step (y_move rfl) rfl rfl rfl (gj_nil ?_))
          refine ej_th ?_
          refine cj_cond rfl (fun h44 => ?_) (fun h44 => ?_)
          · have h44b := h44
            try simp only [sxb] at h44
            have hrs : roomS (rgL lad st) st x b = stepP (rgL lad st) st x (offer1 (rgL lad st) b) := by rw [roomS, if_pos h44]
            refine cj_region ?_
            refine oj_step (y_move rfl) rfl rfl rfl ?_
            refine oj_step (y_loadN Try.isAgg93 Try.sizeOf93 rfl) rfl rfl rfl ?_
            refine oj_callMV (X := Unit) (b := b26) (fun _ => .tuple #[]) (fun _ => cellsB 102 [.int .i64 st, .int .i64 rv, .slice Al lad.length cl, .int .i64 (stepP (rgL lad st) st x (offer1 (rgL lad st) b)).who, .int .i64 (stepP (rgL lad st) st x (offer1 (rgL lad st) b)).limit, .int .i64 (stepP (rgL lad st) st x (offer1 (rgL lad st) b)).way, .int .i64 (stepP (rgL lad st) st x (offer1 (rgL lad st) b)).second, .int .i64 (stepP (rgL lad st) st x (offer1 (rgL lad st) b)).price]) rfl rfl ⟨62, #[.pointer (some ⟨b26, 0, none⟩)], #[], rfl, Try.call62, fun w hp => (k_bid st rv lad Al cl x (offer1 (rgL lad st) b) b26 w hp.own1 hp.rdX hok).mono (fun e w2 ⟨h1, h2, h3⟩ => ⟨(), h1, h2, h3⟩)⟩ rfl (fun _ => ?_)
            refine oj_nil ?_
            rw [← hrs]
            exact ej_ct () trivial ⟨rfl, rfl, rfl, rfl, rfl, rfl, rfl, rfl, trivial⟩
          · have h44b := h44
            try simp only [sxb] at h44
            have hrs : roomS (rgL lad st) st x b = x := by rw [roomS, if_neg (by omega)]
            refine cj_skip ?_
            refine ej_eqX [ownB b12 (cellsB 93 [.int .i64 (offer1 (rgL lad st) b).who, .int .i64 (offer1 (rgL lad st) b).way, .int .i64 (offer1 (rgL lad st) b).most]), ownB b11 (cellsB 53 [.int .i64 b.who, .int .i64 b.way, .int .i64 b.most]), ow 41 5 encLe A1 c1 outs, ownB b26 (cellsB 102 [.int .i64 st, .int .i64 rv, .slice Al lad.length cl, .int .i64 (roomS (rgL lad st) st x b).who, .int .i64 (roomS (rgL lad st) st x b).limit, .int .i64 (roomS (rgL lad st) st x b).way, .int .i64 (roomS (rgL lad st) st x b).second, .int .i64 (roomS (rgL lad st) st x b).price]), ownB b2 (cellsB 24 [.int .i64 st, .int .i64 rv, .slice Al lad.length cl])] (by rw [hrs]) ?_
            exact ej_ct () trivial ⟨rfl, rfl, rfl, rfl, rfl, rfl, rfl, rfl, trivial⟩
        · rintro - -
          dsimp only [List.cons_append, List.nil_append]
          refine cj_region ?_
          refine oj_step (y_move rfl) rfl rfl rfl ?_
          refine oj_step (y_move rfl) rfl rfl rfl ?_
          refine oj_step (y_nil rfl) rfl rfl rfl ?_
          refine oj_step (y_fa fa102_1 rfl) rfl rfl rfl ?_
          refine oj_step (y_loadN Try.isAgg41 Try.sizeOf41 rfl) rfl rfl rfl ?_
          refine oj_buildSlice (cs := [.int .i64 (roomS (rgL lad st) st x b).who, .int .i64 (roomS (rgL lad st) st x b).limit, .int .i64 (roomS (rgL lad st) st x b).way, .int .i64 (roomS (rgL lad st) st x b).second, .int .i64 (roomS (rgL lad st) st x b).price]) [.int .i64 0, .int .i64 0, .int .i64 0, .int .i64 0, .int .i64 0] Try.underlying37 Try.sizeOf41 Try.zeroValue41 rfl rfl (by kernel_rfl) (by kernel_rfl) rfl (fun b53 => ?_)
          refine oj_append  el37 (fun _ => rfl) encLe_one rfl rfl rfl (reads_lit [(roomS (rgL lad st) st x b)] (fun _ => rfl) rfl) (by unfold maxLen; simp only [List.length_cons, List.length_nil]; omega) (by simp only [List.length_cons, List.length_nil]; omega) rfl (fun A54 c54 => ?_)
          refine oj_step (y_assign rfl) rfl rfl rfl ?_
          refine oj_nil ?_
          refine ej_blk (ej_th ?_)
          refine cj_regionG (gj_step (y_add rfl rfl (by omega)) rfl rfl rfl (gj_step (y_move rfl) rfl rfl rfl (gj_nil ?_)))
          exact ej_nx (k + 1, roomS (rgL lad st) st x b, A54, c54, outs ++ [roomS (rgL lad st) st x b]) (by simp only; omega) ⟨by first | omega | (simp only; omega), by simp only [List.length_append, List.length_cons, List.length_nil]; omega, hrt.symm, by rw [← hout]; simp⟩ ⟨rfl, rfl, rfl, rfl, rfl, rfl, rfl, rfl, trivial⟩
      · have h32b := h32
        try simp only [sxb] at h32
        refine cj_exit (ej_then_exit (ej_then_exit (ej_blk_hit (ej_th (cj_seq ?_)))))
        refine cj_regionG (gj_step (y_move rfl) rfl rfl rfl (gj_step (y_assign rfl) rfl rfl rfl (gj_step (y_assign rfl) rfl rfl rfl (gj_nil ?_))))
        refine ej_th (cj_ret ?_)
        have hoe : outs = RoomL st rv lad bs := by rw [e1, ← hout, List.drop_of_length_le (by omega)]; simp [roomG]
        have hol : outs.length ≤ 32 := by omega
        exact ej_ret2 rfl Try.results24 rfl rfl (fun w' hp => ⟨A1, c1, by rw [← hoe, e2], hp.below, by rw [← hoe]; exact hp.res (fun _ => rfl) (by unfold maxLen; omega)⟩)

theorem k_rbid (st rv : Int) (lad : List RiseV) (Al : Option Addr) (cl : Nat) (x : LeadV) (b : BidV) (w : World) (hlad : Rd w 2 encRi Al lad) (hok : LotOk st rv lad) (hxb : (0 ≤ x.limit ∧ x.limit ≤ 100000) ∧ (0 ≤ x.second ∧ x.second ≤ 100000)) : Calls Try.prog 64 #[.agg #[.int .i64 st, .int .i64 rv, .slice Al lad.length cl], .agg #[.int .i64 x.who, .int .i64 x.limit, .int .i64 x.way, .int .i64 x.second, .int .i64 x.price], evB b] w (fun e w' => e = .returned (.agg #[.int .i64 (roomRr st lad x b).who, .int .i64 (roomRr st lad x b).limit, .int .i64 (roomRr st lad x b).way, .int .i64 (roomRr st lad x b).second, .int .i64 (roomRr st lad x b).price]) ∧ Grow w w') := by
  have hrb := rung_bd hok b.most
  refine enter_pure (args := [.agg #[.int .i64 st, .int .i64 rv, .slice Al lad.length cl], .agg #[.int .i64 x.who, .int .i64 x.limit, .int .i64 x.way, .int .i64 x.second, .int .i64 x.price], evB b]) [sl (fun b => b < w.heap.size) 2 encRi Al lad] Try.func64 rfl (by rw [Try.ntmps64]; simp) (fun g hg => by simp at hg; subst hg; exact ⟨hlad, fun _ h => h⟩) ?_
  refine cj_seq (cj_region ?_)
  refine oj_box rfl rfl rfl (fun b3 => ?_)
  refine oj_box rfl rfl rfl (fun b4 => ?_)
  refine oj_box rfl rfl rfl (fun b5 => ?_)
  refine oj_alloc Try.zeroValue41 rfl rfl (fun b6 => ?_)
  refine oj_nil ?_
  refine ej_th (cj_seq ?_)
  refine cj_regionG ?_
  refine gj_step (y_loadN Try.isAgg24 Try.sizeOf24 rfl) rfl rfl rfl (gj_step (y_fa fa53_2 rfl) rfl rfl rfl (gj_step (y_load1 Try.isAgg3 rfl rfl) rfl rfl rfl (?_)))
  refine gj_step (y_call Try.call48 rfl (fun w hp => k_rrung st rv lad Al cl b.most w hp.rd hok)) rfl rfl rfl ?_
  refine gj_step (y_assign rfl) rfl rfl rfl (?_)
  refine gj_nil ?_
  refine ej_th (cj_seq (cj_seq ?_))
  refine cj_regionG (gj_step (y_move rfl) rfl rfl rfl (gj_step (y_eql rfl rfl) rfl rfl rfl (gj_nil ?_)))
  refine ej_th ?_
  refine cj_cond rfl (fun h15 => ?_) (fun h15 => ?_)
  · have h15b := h15
    try simp only [sxb] at h15
    refine cj_seq (cj_region ?_)
    refine oj_step (y_loadN Try.isAgg41 Try.sizeOf41 rfl) rfl rfl rfl ?_
    refine oj_store rfl rfl rfl rfl Try.sizeOf41 rfl ?_
    refine oj_nil ?_
    refine ej_th (cj_ret (ej_then_ret ?_))
    refine ej_retC1 rfl Try.results64 rfl (y_loadN Try.isAgg41 Try.sizeOf41 rfl) (fun w' hp => ⟨?_, hp.below⟩)
    rw [roomRr, if_pos (by simpa using h15b)]
  · have h15b := h15
    try simp only [sxb] at h15
    refine cj_skip (ej_th (cj_seq ?_))
    refine cj_plan 17 (by kernel_rfl) (by kernel_rfl) ?_
    refine pl_y 0 rfl (y_move rfl) rfl rfl rfl rfl (by kernel_rfl) ?_
    refine pl_y 1 rfl (y_fa fa53_1 rfl) rfl rfl rfl rfl (by kernel_rfl) ?_
    refine pl_y 2 rfl (y_load1 Try.isAgg3 rfl rfl) rfl rfl rfl rfl (by kernel_rfl) ?_
    refine pl_y 3 rfl (y_fa0 fa53_0 rfl) rfl rfl rfl rfl (by kernel_rfl) ?_
    refine pl_y 4 rfl (y_load1 Try.isAgg3 rfl rfl) rfl rfl rfl rfl (by kernel_rfl) ?_
    refine pl_y 5 rfl (y_build (cs := [.int .i64 (rungR st lad b.most), .int .i64 b.way, .int .i64 b.who]) st95 rfl (by kernel_rfl)) rfl rfl rfl rfl (by kernel_rfl) ?_
    refine pl_y 6 rfl (y_fa fa41_1 rfl) rfl rfl rfl rfl (by kernel_rfl) ?_
    refine pl_y 7 rfl (y_load1 Try.isAgg3 rfl rfl) rfl rfl rfl rfl (by kernel_rfl) ?_
    refine pl_y 8 rfl (y_fa fa41_2 rfl) rfl rfl rfl rfl (by kernel_rfl) ?_
    refine pl_y 9 rfl (y_load1 Try.isAgg3 rfl rfl) rfl rfl rfl rfl (by kernel_rfl) ?_
    refine pl_y 10 rfl (y_fa0 fa41_0 rfl) rfl rfl rfl rfl (by kernel_rfl) ?_
    refine pl_y 11 rfl (y_load1 Try.isAgg3 rfl rfl) rfl rfl rfl rfl (by kernel_rfl) ?_
    refine pl_y 12 rfl (y_build (cs := [.int .i64 x.limit, .int .i64 x.way, .int .i64 x.who]) st95 rfl (by kernel_rfl)) rfl rfl rfl rfl (by kernel_rfl) ?_
    refine pl_w2 13 14 (by kernel_rfl) rfl rfl (pl_fire rfl rfl rfl (by kernel_rfl) ?_) (pl_fire rfl rfl rfl (by kernel_rfl) ?_)
    · refine oj_alloc Try.zeroValue95 rfl rfl (fun b8 => ?_)
      refine oj_nil ?_
      refine ej_pl (lt_y (y_build (cs := [.int .i64 x.limit, .int .i64 x.way, .int .i64 x.who]) st95 rfl (by kernel_rfl)) rfl (lt_y (y_load1 Try.isAgg3 rfl rfl) rfl (lt_y (y_fa0 fa41_0 rfl) rfl (lt_y (y_load1 Try.isAgg3 rfl rfl) rfl (lt_y (y_fa fa41_2 rfl) rfl (lt_y (y_load1 Try.isAgg3 rfl rfl) rfl (lt_y (y_fa fa41_1 rfl) rfl (lt_y (y_build (cs := [.int .i64 (rungR st lad b.most), .int .i64 b.way, .int .i64 b.who]) st95 rfl (by kernel_rfl)) rfl (lt_y (y_load1 Try.isAgg3 rfl rfl) rfl (lt_y (y_fa0 fa53_0 rfl) rfl (lt_y (y_load1 Try.isAgg3 rfl rfl) rfl (lt_y (y_fa fa53_1 rfl) rfl (lt_y (y_move rfl) rfl (lt_nil)))))))))))))) ?_
      refine pl_w1 14 (by kernel_rfl) rfl rfl (pl_fire rfl rfl rfl (by kernel_rfl) ?_)
      refine oj_alloc Try.zeroValue95 rfl rfl (fun b9 => ?_)
      refine oj_nil ?_
      refine ej_pl (lt_y (y_build (cs := [.int .i64 x.limit, .int .i64 x.way, .int .i64 x.who]) st95 rfl (by kernel_rfl)) rfl (lt_y (y_load1 Try.isAgg3 rfl rfl) rfl (lt_y (y_fa0 fa41_0 rfl) rfl (lt_y (y_load1 Try.isAgg3 rfl rfl) rfl (lt_y (y_fa fa41_2 rfl) rfl (lt_y (y_load1 Try.isAgg3 rfl rfl) rfl (lt_y (y_fa fa41_1 rfl) rfl (lt_y (y_build (cs := [.int .i64 (rungR st lad b.most), .int .i64 b.way, .int .i64 b.who]) st95 rfl (by kernel_rfl)) rfl (lt_y (y_load1 Try.isAgg3 rfl rfl) rfl (lt_y (y_fa0 fa53_0 rfl) rfl (lt_y (y_load1 Try.isAgg3 rfl rfl) rfl (lt_y (y_fa fa53_1 rfl) rfl (lt_y (y_move rfl) rfl (lt_nil)))))))))))))) ?_
      refine pl_w1 15 (by kernel_rfl) rfl rfl (pl_fire rfl rfl rfl (by kernel_rfl) ?_)
      refine oj_store rfl rfl rfl rfl Try.sizeOf95 rfl ?_
      refine oj_nil ?_
      refine ej_pl (lt_y (y_build (cs := [.int .i64 x.limit, .int .i64 x.way, .int .i64 x.who]) st95 rfl (by kernel_rfl)) rfl (lt_y (y_load1 Try.isAgg3 rfl rfl) rfl (lt_y (y_fa0 fa41_0 rfl) rfl (lt_y (y_load1 Try.isAgg3 rfl rfl) rfl (lt_y (y_fa fa41_2 rfl) rfl (lt_y (y_load1 Try.isAgg3 rfl rfl) rfl (lt_y (y_fa fa41_1 rfl) rfl (lt_w (by kernel_rfl) (lt_w (by kernel_rfl) (lt_w (by kernel_rfl) (lt_w (by kernel_rfl) (lt_w (by kernel_rfl) (lt_w (by kernel_rfl) (lt_nil)))))))))))))) ?_
      refine pl_w1 16 (by kernel_rfl) rfl rfl (pl_fire rfl rfl rfl (by kernel_rfl) ?_)
      refine oj_store rfl rfl rfl rfl Try.sizeOf95 rfl ?_
      refine oj_nil ?_
      refine ej_pl (lt_w (by kernel_rfl) (lt_w (by kernel_rfl) (lt_w (by kernel_rfl) (lt_w (by kernel_rfl) (lt_w (by kernel_rfl) (lt_w (by kernel_rfl) (lt_w (by kernel_rfl) (lt_w (by kernel_rfl) (lt_w (by kernel_rfl) (lt_w (by kernel_rfl) (lt_w (by kernel_rfl) (lt_w (by kernel_rfl) (lt_w (by kernel_rfl) (lt_nil)))))))))))))) ?_
      refine pl_end (by kernel_rfl) ?_
      refine ej_th (cj_seq (cj_block (cj_seq ?_)))
      refine cj_regionG (gj_step (y_fa0 fa41_0 rfl) rfl rfl rfl (gj_step (y_load1 Try.isAgg3 rfl rfl) rfl rfl rfl (gj_step (y_eql rfl rfl) rfl rfl rfl (gj_step (y_assign rfl) rfl rfl rfl (gj_nil ?_)))))
      refine ej_th ?_
      refine cj_cond rfl (fun h35 => ?_) (fun h35 => ?_)
      · have h35b := h35
        try simp only [sxb] at h35
        refine cj_plan 11 (by kernel_rfl) (by kernel_rfl) ?_
        refine pl_y 0 rfl (y_fa0 fa53_0 rfl) rfl rfl rfl rfl (by kernel_rfl) ?_
        refine pl_y 1 rfl (y_load1 Try.isAgg3 rfl rfl) rfl rfl rfl rfl (by kernel_rfl) ?_
        refine pl_y 2 rfl (y_move rfl) rfl rfl rfl rfl (by kernel_rfl) ?_
        refine pl_y 3 rfl (y_fa fa53_1 rfl) rfl rfl rfl rfl (by kernel_rfl) ?_
        refine pl_y 4 rfl (y_load1 Try.isAgg3 rfl rfl) rfl rfl rfl rfl (by kernel_rfl) ?_
        refine pl_y 5 rfl (y_fa0 fa41_0 rfl) rfl rfl rfl rfl (by kernel_rfl) ?_
        refine pl_w1 6 (by kernel_rfl) rfl rfl (pl_fire rfl rfl rfl (by kernel_rfl) ?_)
        refine oj_store rfl rfl rfl rfl Try.sizeOf3 rfl ?_
        refine oj_nil ?_
        refine ej_pl (lt_w (by kernel_rfl) (lt_y (y_load1 Try.isAgg3 rfl rfl) rfl (lt_y (y_fa fa53_1 rfl) rfl (lt_y (y_move rfl) rfl (lt_w (by kernel_rfl) (lt_w (by kernel_rfl) (lt_nil))))))) ?_
        refine pl_y 7 rfl (y_fa fa41_1 rfl) rfl rfl rfl rfl (by kernel_rfl) ?_
        refine pl_w1 8 (by kernel_rfl) rfl rfl (pl_fire rfl rfl rfl (by kernel_rfl) ?_)
        refine oj_store rfl rfl rfl rfl Try.sizeOf3 rfl ?_
        refine oj_nil ?_
        refine ej_pl (lt_w (by kernel_rfl) (lt_w (by kernel_rfl) (lt_y (y_load1 Try.isAgg3 rfl rfl) rfl (lt_y (y_fa fa53_1 rfl) rfl (lt_w (by kernel_rfl) (lt_w (by kernel_rfl) (lt_w (by kernel_rfl) (lt_nil)))))))) ?_
        refine pl_y 9 rfl (y_fa fa41_2 rfl) rfl rfl rfl rfl (by kernel_rfl) ?_
        refine pl_w1 10 (by kernel_rfl) rfl rfl (pl_fire rfl rfl rfl (by kernel_rfl) ?_)
        refine oj_store rfl rfl rfl rfl Try.sizeOf3 rfl ?_
        refine oj_nil ?_
        refine ej_pl (lt_w (by kernel_rfl) (lt_w (by kernel_rfl) (lt_w (by kernel_rfl) (lt_w (by kernel_rfl) (lt_w (by kernel_rfl) (lt_w (by kernel_rfl) (lt_w (by kernel_rfl) (lt_w (by kernel_rfl) (lt_nil))))))))) ?_
        refine pl_end (by kernel_rfl) ?_
        refine ej_blk (ej_th (cj_seq (cj_region ?_)))
        refine oj_step (y_loadN Try.isAgg24 Try.sizeOf24 rfl) rfl rfl rfl ?_
        refine oj_step (y_fa fa41_1 rfl) rfl rfl rfl ?_
        refine oj_step (y_load1 Try.isAgg3 rfl rfl) rfl rfl rfl ?_
        refine oj_step (y_fa fa41_3 rfl) rfl rfl rfl ?_
        refine oj_step (y_load1 Try.isAgg3 rfl rfl) rfl rfl rfl ?_
        refine oj_step (y_call Try.call61 rfl (fun w hp => k_rprice st rv lad Al cl _ _ w hp.rd hok.lad (by omega))) rfl rfl rfl ?_
        refine oj_step (y_fa fa41_4 rfl) rfl rfl rfl ?_
        refine oj_store rfl rfl rfl rfl Try.sizeOf3 rfl ?_
        refine oj_nil ?_
        refine ej_th (cj_seq (cj_region ?_))
        refine oj_step (y_loadN Try.isAgg41 Try.sizeOf41 rfl) rfl rfl rfl ?_
        refine oj_store rfl rfl rfl rfl Try.sizeOf41 rfl ?_
        refine oj_nil ?_
        refine ej_th (cj_ret ?_)
        refine ej_retC1 rfl Try.results64 rfl (y_loadN Try.isAgg41 Try.sizeOf41 rfl) (fun w' hp => ⟨?_, hp.below⟩)
        have hE : roomRr st lad x b = ⟨b.who, rungR st lad b.most, b.way, x.second, priceR lad st (rungR st lad b.most) x.second⟩ := by
          rw [roomRr_B, if_neg (by simpa using h15b), stepB, if_pos (by simpa using h35b)]
        rw [hE]
      · have h35b := h35
        try simp only [sxb] at h35
        refine cj_seq ?_
        refine cj_regionG (gj_step (y_fa0 fa41_0 rfl) rfl rfl rfl (gj_step (y_load1 Try.isAgg3 rfl rfl) rfl rfl rfl (gj_step (y_fa0 fa53_0 rfl) rfl rfl rfl (gj_step (y_load1 Try.isAgg3 rfl rfl) rfl rfl rfl (gj_step (y_eql rfl rfl) rfl rfl rfl (gj_step (y_assign rfl) rfl rfl rfl (gj_nil ?_)))))))
        refine ej_th ?_
        refine cj_cond rfl (fun h47 => ?_) (fun h47 => ?_)
        · have h47b := h47
          try simp only [sxb] at h47
          refine cj_seq ?_
          refine cj_regionG (gj_step (y_move rfl) rfl rfl rfl (gj_step (y_fa fa41_1 rfl) rfl rfl rfl (gj_step (y_load1 Try.isAgg3 rfl rfl) rfl rfl rfl (gj_step (y_gtr rfl rfl) rfl rfl rfl (gj_step (y_move rfl) rfl rfl rfl (gj_g 11 57 68 rfl rfl rfl rfl (fun hg57 => gj_yes rfl rfl rfl (y_move rfl) rfl rfl (gj_yes rfl rfl rfl (y_fa fa41_1 rfl) rfl rfl (gj_yes rfl rfl rfl (y_load1 Try.isAgg3 rfl rfl) rfl rfl (gj_yes rfl rfl rfl (y_eql rfl rfl) rfl rfl (gj_yes rfl rfl rfl (y_move rfl) rfl rfl (gj_g 5 62 67 rfl rfl rfl rfl (fun hg62 => gj_yes rfl rfl rfl (y_fa fa53_1 rfl) rfl rfl (gj_yes rfl rfl rfl (y_load1 Try.isAgg3 rfl rfl) rfl rfl (gj_yes rfl rfl rfl (y_fa fa41_2 rfl) rfl rfl (gj_yes rfl rfl rfl (y_load1 Try.isAgg3 rfl rfl) rfl rfl (gj_yes rfl rfl rfl (y_lss rfl rfl) rfl rfl (gj_nil rfl)))))) (gj_yes rfl rfl rfl (y_and rfl rfl rfl) rfl rfl (gj_nil rfl)))))))) (gj_step (y_or rfl rfl rfl) rfl rfl rfl (gj_nil ?_))))))))
          refine ej_th ?_
          refine cj_cond rfl (fun h69 => ?_) (fun h69 => ?_)
          · have h69b := h69
            try simp only [sxb] at h69
            simp only [Bool.or_eq_true, Bool.and_eq_true, beq_iff_eq, decide_eq_true_eq] at h69b
            refine cj_plan 7 (by kernel_rfl) (by kernel_rfl) ?_
            refine pl_y 0 rfl (y_move rfl) rfl rfl rfl rfl (by kernel_rfl) ?_
            refine pl_y 1 rfl (y_fa fa53_1 rfl) rfl rfl rfl rfl (by kernel_rfl) ?_
            refine pl_y 2 rfl (y_load1 Try.isAgg3 rfl rfl) rfl rfl rfl rfl (by kernel_rfl) ?_
            refine pl_y 3 rfl (y_fa fa41_1 rfl) rfl rfl rfl rfl (by kernel_rfl) ?_
            refine pl_w1 4 (by kernel_rfl) rfl rfl (pl_fire rfl rfl rfl (by kernel_rfl) ?_)
            refine oj_store rfl rfl rfl rfl Try.sizeOf3 rfl ?_
            refine oj_nil ?_
            refine ej_pl (lt_w (by kernel_rfl) (lt_y (y_load1 Try.isAgg3 rfl rfl) rfl (lt_y (y_fa fa53_1 rfl) rfl (lt_w (by kernel_rfl) (lt_nil))))) ?_
            refine pl_y 5 rfl (y_fa fa41_2 rfl) rfl rfl rfl rfl (by kernel_rfl) ?_
            refine pl_w1 6 (by kernel_rfl) rfl rfl (pl_fire rfl rfl rfl (by kernel_rfl) ?_)
            refine oj_store rfl rfl rfl rfl Try.sizeOf3 rfl ?_
            refine oj_nil ?_
            refine ej_pl (lt_w (by kernel_rfl) (lt_w (by kernel_rfl) (lt_w (by kernel_rfl) (lt_w (by kernel_rfl) (lt_w (by kernel_rfl) (lt_nil)))))) ?_
            refine pl_end (by kernel_rfl) ?_
            refine ej_blk (ej_th (cj_seq (cj_region ?_)))
            refine oj_step (y_loadN Try.isAgg24 Try.sizeOf24 rfl) rfl rfl rfl ?_
            refine oj_step (y_fa fa41_1 rfl) rfl rfl rfl ?_
            refine oj_step (y_load1 Try.isAgg3 rfl rfl) rfl rfl rfl ?_
            refine oj_step (y_fa fa41_3 rfl) rfl rfl rfl ?_
            refine oj_step (y_load1 Try.isAgg3 rfl rfl) rfl rfl rfl ?_
            refine oj_step (y_call Try.call61 rfl (fun w hp => k_rprice st rv lad Al cl _ _ w hp.rd hok.lad (by omega))) rfl rfl rfl ?_
            refine oj_step (y_fa fa41_4 rfl) rfl rfl rfl ?_
            refine oj_store rfl rfl rfl rfl Try.sizeOf3 rfl ?_
            refine oj_nil ?_
            refine ej_th (cj_seq (cj_region ?_))
            refine oj_step (y_loadN Try.isAgg41 Try.sizeOf41 rfl) rfl rfl rfl ?_
            refine oj_store rfl rfl rfl rfl Try.sizeOf41 rfl ?_
            refine oj_nil ?_
            refine ej_th (cj_ret ?_)
            refine ej_retC1 rfl Try.results64 rfl (y_loadN Try.isAgg41 Try.sizeOf41 rfl) (fun w' hp => ⟨?_, hp.below⟩)
            have hE : roomRr st lad x b = ⟨x.who, rungR st lad b.most, b.way, x.second, priceR lad st (rungR st lad b.most) x.second⟩ := by
              rw [roomRr_B, if_neg (by simpa using h15b), stepB, if_neg (by simpa using h35b), if_pos (show x.who = b.who by simpa using h47b), if_pos (show x.limit < rungR st lad b.most ∨ rungR st lad b.most = x.limit ∧ b.way < x.way by omega)]
            rw [hE]
          · have h69b := h69
            try simp only [sxb] at h69
            simp only [Bool.or_eq_false_iff, Bool.and_eq_false_iff, beq_eq_false_iff_ne, decide_eq_false_iff_not] at h69b
            refine cj_skip (ej_blk (ej_th (cj_seq (cj_region ?_))))
            refine oj_step (y_loadN Try.isAgg24 Try.sizeOf24 rfl) rfl rfl rfl ?_
            refine oj_step (y_fa fa41_1 rfl) rfl rfl rfl ?_
            refine oj_step (y_load1 Try.isAgg3 rfl rfl) rfl rfl rfl ?_
            refine oj_step (y_fa fa41_3 rfl) rfl rfl rfl ?_
            refine oj_step (y_load1 Try.isAgg3 rfl rfl) rfl rfl rfl ?_
            refine oj_step (y_call Try.call61 rfl (fun w hp => k_rprice st rv lad Al cl _ _ w hp.rd hok.lad (by omega))) rfl rfl rfl ?_
            refine oj_step (y_fa fa41_4 rfl) rfl rfl rfl ?_
            refine oj_store rfl rfl rfl rfl Try.sizeOf3 rfl ?_
            refine oj_nil ?_
            refine ej_th (cj_seq (cj_region ?_))
            refine oj_step (y_loadN Try.isAgg41 Try.sizeOf41 rfl) rfl rfl rfl ?_
            refine oj_store rfl rfl rfl rfl Try.sizeOf41 rfl ?_
            refine oj_nil ?_
            refine ej_th (cj_ret ?_)
            refine ej_retC1 rfl Try.results64 rfl (y_loadN Try.isAgg41 Try.sizeOf41 rfl) (fun w' hp => ⟨?_, hp.below⟩)
            have hE : roomRr st lad x b = ⟨x.who, x.limit, x.way, x.second, priceR lad st x.limit x.second⟩ := by
              rw [roomRr_B, if_neg (by simpa using h15b), stepB, if_neg (by simpa using h35b), if_pos (show x.who = b.who by simpa using h47b), if_neg (show ¬ (x.limit < rungR st lad b.most ∨ rungR st lad b.most = x.limit ∧ b.way < x.way) by omega)]
            rw [hE]
        · have h47b := h47
          try simp only [sxb] at h47
          refine cj_seq ?_
          refine cj_regionG ?_
          refine gj_step (y_loadN Try.isAgg95 Try.sizeOf95 rfl) rfl rfl rfl (gj_step (y_loadN Try.isAgg95 Try.sizeOf95 rfl) rfl rfl rfl (?_))
          refine gj_step (y_call Try.call59 rfl (fun w hp => k_rbeats (offer1 (rgL lad st) b) ⟨x.who, x.way, x.limit⟩ w)) rfl rfl rfl ?_
          refine gj_step (y_assign rfl) rfl rfl rfl (?_)
          refine gj_nil ?_
          refine ej_th ?_
          refine cj_cond rfl (fun h75 => ?_) (fun h75 => ?_)
          · have h75b := h75
            try simp only [sxb] at h75
            refine cj_seq (cj_region ?_)
            refine oj_step (y_fa fa41_1 rfl) rfl rfl rfl ?_
            refine oj_step (y_load1 Try.isAgg3 rfl rfl) rfl rfl rfl ?_
            refine oj_step (y_fa fa41_3 rfl) rfl rfl rfl ?_
            refine oj_store rfl rfl rfl rfl Try.sizeOf3 rfl ?_
            refine oj_nil ?_
            refine ej_th ?_
            refine cj_plan 11 (by kernel_rfl) (by kernel_rfl) ?_
            refine pl_y 0 rfl (y_fa0 fa53_0 rfl) rfl rfl rfl rfl (by kernel_rfl) ?_
            refine pl_y 1 rfl (y_load1 Try.isAgg3 rfl rfl) rfl rfl rfl rfl (by kernel_rfl) ?_
            refine pl_y 2 rfl (y_move rfl) rfl rfl rfl rfl (by kernel_rfl) ?_
            refine pl_y 3 rfl (y_fa fa53_1 rfl) rfl rfl rfl rfl (by kernel_rfl) ?_
            refine pl_y 4 rfl (y_load1 Try.isAgg3 rfl rfl) rfl rfl rfl rfl (by kernel_rfl) ?_
            refine pl_y 5 rfl (y_fa0 fa41_0 rfl) rfl rfl rfl rfl (by kernel_rfl) ?_
            refine pl_w1 6 (by kernel_rfl) rfl rfl (pl_fire rfl rfl rfl (by kernel_rfl) ?_)
            refine oj_store rfl rfl rfl rfl Try.sizeOf3 rfl ?_
            refine oj_nil ?_
            refine ej_pl (lt_w (by kernel_rfl) (lt_y (y_load1 Try.isAgg3 rfl rfl) rfl (lt_y (y_fa fa53_1 rfl) rfl (lt_y (y_move rfl) rfl (lt_w (by kernel_rfl) (lt_w (by kernel_rfl) (lt_nil))))))) ?_
            refine pl_y 7 rfl (y_fa fa41_1 rfl) rfl rfl rfl rfl (by kernel_rfl) ?_
            refine pl_w1 8 (by kernel_rfl) rfl rfl (pl_fire rfl rfl rfl (by kernel_rfl) ?_)
            refine oj_store rfl rfl rfl rfl Try.sizeOf3 rfl ?_
            refine oj_nil ?_
            refine ej_pl (lt_w (by kernel_rfl) (lt_w (by kernel_rfl) (lt_y (y_load1 Try.isAgg3 rfl rfl) rfl (lt_y (y_fa fa53_1 rfl) rfl (lt_w (by kernel_rfl) (lt_w (by kernel_rfl) (lt_w (by kernel_rfl) (lt_nil)))))))) ?_
            refine pl_y 9 rfl (y_fa fa41_2 rfl) rfl rfl rfl rfl (by kernel_rfl) ?_
            refine pl_w1 10 (by kernel_rfl) rfl rfl (pl_fire rfl rfl rfl (by kernel_rfl) ?_)
            refine oj_store rfl rfl rfl rfl Try.sizeOf3 rfl ?_
            refine oj_nil ?_
            refine ej_pl (lt_w (by kernel_rfl) (lt_w (by kernel_rfl) (lt_w (by kernel_rfl) (lt_w (by kernel_rfl) (lt_w (by kernel_rfl) (lt_w (by kernel_rfl) (lt_w (by kernel_rfl) (lt_w (by kernel_rfl) (lt_nil))))))))) ?_
            refine pl_end (by kernel_rfl) ?_
            refine ej_blk (ej_th (cj_seq (cj_region ?_)))
            refine oj_step (y_loadN Try.isAgg24 Try.sizeOf24 rfl) rfl rfl rfl ?_
            refine oj_step (y_fa fa41_1 rfl) rfl rfl rfl ?_
            refine oj_step (y_load1 Try.isAgg3 rfl rfl) rfl rfl rfl ?_
            refine oj_step (y_fa fa41_3 rfl) rfl rfl rfl ?_
            refine oj_step (y_load1 Try.isAgg3 rfl rfl) rfl rfl rfl ?_
            refine oj_step (y_call Try.call61 rfl (fun w hp => k_rprice st rv lad Al cl _ _ w hp.rd hok.lad (by omega))) rfl rfl rfl ?_
            refine oj_step (y_fa fa41_4 rfl) rfl rfl rfl ?_
            refine oj_store rfl rfl rfl rfl Try.sizeOf3 rfl ?_
            refine oj_nil ?_
            refine ej_th (cj_seq (cj_region ?_))
            refine oj_step (y_loadN Try.isAgg41 Try.sizeOf41 rfl) rfl rfl rfl ?_
            refine oj_store rfl rfl rfl rfl Try.sizeOf41 rfl ?_
            refine oj_nil ?_
            refine ej_th (cj_ret ?_)
            refine ej_retC1 rfl Try.results64 rfl (y_loadN Try.isAgg41 Try.sizeOf41 rfl) (fun w' hp => ⟨?_, hp.below⟩)
            have hE : roomRr st lad x b = ⟨b.who, rungR st lad b.most, b.way, x.limit, priceR lad st (rungR st lad b.most) x.limit⟩ := by
              rw [roomRr_B, if_neg (by simpa using h15b), stepB, if_neg (by simpa using h35b), if_neg (show ¬ x.who = b.who by simpa using h47b), if_pos (show beats ⟨b.who, b.way, rungR st lad b.most⟩ ⟨x.who, x.way, x.limit⟩ = true from h75b)]
            rw [hE]
          · have h75b := h75
            try simp only [sxb] at h75
            refine cj_region ?_
            refine oj_step (y_fa fa41_3 rfl) rfl rfl rfl ?_
            refine oj_step (y_load1 Try.isAgg3 rfl rfl) rfl rfl rfl ?_
            refine oj_step (y_move rfl) rfl rfl rfl ?_
            refine oj_step (y_max rfl rfl) rfl rfl rfl ?_
            refine oj_step (y_fa fa41_3 rfl) rfl rfl rfl ?_
            refine oj_store rfl rfl rfl rfl Try.sizeOf3 rfl ?_
            refine oj_nil ?_
            refine ej_blk (ej_th (cj_seq (cj_region ?_)))
            refine oj_step (y_loadN Try.isAgg24 Try.sizeOf24 rfl) rfl rfl rfl ?_
            refine oj_step (y_fa fa41_1 rfl) rfl rfl rfl ?_
            refine oj_step (y_load1 Try.isAgg3 rfl rfl) rfl rfl rfl ?_
            refine oj_step (y_fa fa41_3 rfl) rfl rfl rfl ?_
            refine oj_step (y_load1 Try.isAgg3 rfl rfl) rfl rfl rfl ?_
            refine oj_step (y_call Try.call61 rfl (fun w hp => k_rprice st rv lad Al cl _ _ w hp.rd hok.lad (by omega))) rfl rfl rfl ?_
            refine oj_step (y_fa fa41_4 rfl) rfl rfl rfl ?_
            refine oj_store rfl rfl rfl rfl Try.sizeOf3 rfl ?_
            refine oj_nil ?_
            refine ej_th (cj_seq (cj_region ?_))
            refine oj_step (y_loadN Try.isAgg41 Try.sizeOf41 rfl) rfl rfl rfl ?_
            refine oj_store rfl rfl rfl rfl Try.sizeOf41 rfl ?_
            refine oj_nil ?_
            refine ej_th (cj_ret ?_)
            refine ej_retC1 rfl Try.results64 rfl (y_loadN Try.isAgg41 Try.sizeOf41 rfl) (fun w' hp => ⟨?_, hp.below⟩)
            have hE : roomRr st lad x b = ⟨x.who, x.limit, x.way, max x.second (rungR st lad b.most), priceR lad st x.limit (max x.second (rungR st lad b.most))⟩ := by
              rw [roomRr_B, if_neg (by simpa using h15b), stepB, if_neg (by simpa using h35b), if_neg (show ¬ x.who = b.who by simpa using h47b), if_neg (show ¬ beats ⟨b.who, b.way, rungR st lad b.most⟩ ⟨x.who, x.way, x.limit⟩ = true by rw [show beats ⟨b.who, b.way, rungR st lad b.most⟩ ⟨x.who, x.way, x.limit⟩ = false from h75b]; simp)]
            rw [hE]
    · refine oj_alloc Try.zeroValue95 rfl rfl (fun b9 => ?_)
      refine oj_nil ?_
      refine ej_pl (lt_y (y_build (cs := [.int .i64 x.limit, .int .i64 x.way, .int .i64 x.who]) st95 rfl (by kernel_rfl)) rfl (lt_y (y_load1 Try.isAgg3 rfl rfl) rfl (lt_y (y_fa0 fa41_0 rfl) rfl (lt_y (y_load1 Try.isAgg3 rfl rfl) rfl (lt_y (y_fa fa41_2 rfl) rfl (lt_y (y_load1 Try.isAgg3 rfl rfl) rfl (lt_y (y_fa fa41_1 rfl) rfl (lt_y (y_build (cs := [.int .i64 (rungR st lad b.most), .int .i64 b.way, .int .i64 b.who]) st95 rfl (by kernel_rfl)) rfl (lt_y (y_load1 Try.isAgg3 rfl rfl) rfl (lt_y (y_fa0 fa53_0 rfl) rfl (lt_y (y_load1 Try.isAgg3 rfl rfl) rfl (lt_y (y_fa fa53_1 rfl) rfl (lt_y (y_move rfl) rfl (lt_nil)))))))))))))) ?_
      refine pl_w1 13 (by kernel_rfl) rfl rfl (pl_fire rfl rfl rfl (by kernel_rfl) ?_)
      refine oj_alloc Try.zeroValue95 rfl rfl (fun b8 => ?_)
      refine oj_nil ?_
      refine ej_pl (lt_y (y_build (cs := [.int .i64 x.limit, .int .i64 x.way, .int .i64 x.who]) st95 rfl (by kernel_rfl)) rfl (lt_y (y_load1 Try.isAgg3 rfl rfl) rfl (lt_y (y_fa0 fa41_0 rfl) rfl (lt_y (y_load1 Try.isAgg3 rfl rfl) rfl (lt_y (y_fa fa41_2 rfl) rfl (lt_y (y_load1 Try.isAgg3 rfl rfl) rfl (lt_y (y_fa fa41_1 rfl) rfl (lt_y (y_build (cs := [.int .i64 (rungR st lad b.most), .int .i64 b.way, .int .i64 b.who]) st95 rfl (by kernel_rfl)) rfl (lt_y (y_load1 Try.isAgg3 rfl rfl) rfl (lt_y (y_fa0 fa53_0 rfl) rfl (lt_y (y_load1 Try.isAgg3 rfl rfl) rfl (lt_y (y_fa fa53_1 rfl) rfl (lt_y (y_move rfl) rfl (lt_nil)))))))))))))) ?_
      refine pl_w1 15 (by kernel_rfl) rfl rfl (pl_fire rfl rfl rfl (by kernel_rfl) ?_)
      refine oj_store rfl rfl rfl rfl Try.sizeOf95 rfl ?_
      refine oj_nil ?_
      refine ej_pl (lt_y (y_build (cs := [.int .i64 x.limit, .int .i64 x.way, .int .i64 x.who]) st95 rfl (by kernel_rfl)) rfl (lt_y (y_load1 Try.isAgg3 rfl rfl) rfl (lt_y (y_fa0 fa41_0 rfl) rfl (lt_y (y_load1 Try.isAgg3 rfl rfl) rfl (lt_y (y_fa fa41_2 rfl) rfl (lt_y (y_load1 Try.isAgg3 rfl rfl) rfl (lt_y (y_fa fa41_1 rfl) rfl (lt_w (by kernel_rfl) (lt_w (by kernel_rfl) (lt_w (by kernel_rfl) (lt_w (by kernel_rfl) (lt_w (by kernel_rfl) (lt_w (by kernel_rfl) (lt_nil)))))))))))))) ?_
      refine pl_w1 16 (by kernel_rfl) rfl rfl (pl_fire rfl rfl rfl (by kernel_rfl) ?_)
      refine oj_store rfl rfl rfl rfl Try.sizeOf95 rfl ?_
      refine oj_nil ?_
      refine ej_pl (lt_w (by kernel_rfl) (lt_w (by kernel_rfl) (lt_w (by kernel_rfl) (lt_w (by kernel_rfl) (lt_w (by kernel_rfl) (lt_w (by kernel_rfl) (lt_w (by kernel_rfl) (lt_w (by kernel_rfl) (lt_w (by kernel_rfl) (lt_w (by kernel_rfl) (lt_w (by kernel_rfl) (lt_w (by kernel_rfl) (lt_w (by kernel_rfl) (lt_nil)))))))))))))) ?_
      refine pl_end (by kernel_rfl) ?_
      refine ej_th (cj_seq (cj_block (cj_seq ?_)))
      refine cj_regionG (gj_step (y_fa0 fa41_0 rfl) rfl rfl rfl (gj_step (y_load1 Try.isAgg3 rfl rfl) rfl rfl rfl (gj_step (y_eql rfl rfl) rfl rfl rfl (gj_step (y_assign rfl) rfl rfl rfl (gj_nil ?_)))))
      refine ej_th ?_
      refine cj_cond rfl (fun h35 => ?_) (fun h35 => ?_)
      · have h35b := h35
        try simp only [sxb] at h35
        refine cj_plan 11 (by kernel_rfl) (by kernel_rfl) ?_
        refine pl_y 0 rfl (y_fa0 fa53_0 rfl) rfl rfl rfl rfl (by kernel_rfl) ?_
        refine pl_y 1 rfl (y_load1 Try.isAgg3 rfl rfl) rfl rfl rfl rfl (by kernel_rfl) ?_
        refine pl_y 2 rfl (y_move rfl) rfl rfl rfl rfl (by kernel_rfl) ?_
        refine pl_y 3 rfl (y_fa fa53_1 rfl) rfl rfl rfl rfl (by kernel_rfl) ?_
        refine pl_y 4 rfl (y_load1 Try.isAgg3 rfl rfl) rfl rfl rfl rfl (by kernel_rfl) ?_
        refine pl_y 5 rfl (y_fa0 fa41_0 rfl) rfl rfl rfl rfl (by kernel_rfl) ?_
        refine pl_w1 6 (by kernel_rfl) rfl rfl (pl_fire rfl rfl rfl (by kernel_rfl) ?_)
        refine oj_store rfl rfl rfl rfl Try.sizeOf3 rfl ?_
        refine oj_nil ?_
        refine ej_pl (lt_w (by kernel_rfl) (lt_y (y_load1 Try.isAgg3 rfl rfl) rfl (lt_y (y_fa fa53_1 rfl) rfl (lt_y (y_move rfl) rfl (lt_w (by kernel_rfl) (lt_w (by kernel_rfl) (lt_nil))))))) ?_
        refine pl_y 7 rfl (y_fa fa41_1 rfl) rfl rfl rfl rfl (by kernel_rfl) ?_
        refine pl_w1 8 (by kernel_rfl) rfl rfl (pl_fire rfl rfl rfl (by kernel_rfl) ?_)
        refine oj_store rfl rfl rfl rfl Try.sizeOf3 rfl ?_
        refine oj_nil ?_
        refine ej_pl (lt_w (by kernel_rfl) (lt_w (by kernel_rfl) (lt_y (y_load1 Try.isAgg3 rfl rfl) rfl (lt_y (y_fa fa53_1 rfl) rfl (lt_w (by kernel_rfl) (lt_w (by kernel_rfl) (lt_w (by kernel_rfl) (lt_nil)))))))) ?_
        refine pl_y 9 rfl (y_fa fa41_2 rfl) rfl rfl rfl rfl (by kernel_rfl) ?_
        refine pl_w1 10 (by kernel_rfl) rfl rfl (pl_fire rfl rfl rfl (by kernel_rfl) ?_)
        refine oj_store rfl rfl rfl rfl Try.sizeOf3 rfl ?_
        refine oj_nil ?_
        refine ej_pl (lt_w (by kernel_rfl) (lt_w (by kernel_rfl) (lt_w (by kernel_rfl) (lt_w (by kernel_rfl) (lt_w (by kernel_rfl) (lt_w (by kernel_rfl) (lt_w (by kernel_rfl) (lt_w (by kernel_rfl) (lt_nil))))))))) ?_
        refine pl_end (by kernel_rfl) ?_
        refine ej_blk (ej_th (cj_seq (cj_region ?_)))
        refine oj_step (y_loadN Try.isAgg24 Try.sizeOf24 rfl) rfl rfl rfl ?_
        refine oj_step (y_fa fa41_1 rfl) rfl rfl rfl ?_
        refine oj_step (y_load1 Try.isAgg3 rfl rfl) rfl rfl rfl ?_
        refine oj_step (y_fa fa41_3 rfl) rfl rfl rfl ?_
        refine oj_step (y_load1 Try.isAgg3 rfl rfl) rfl rfl rfl ?_
        refine oj_step (y_call Try.call61 rfl (fun w hp => k_rprice st rv lad Al cl _ _ w hp.rd hok.lad (by omega))) rfl rfl rfl ?_
        refine oj_step (y_fa fa41_4 rfl) rfl rfl rfl ?_
        refine oj_store rfl rfl rfl rfl Try.sizeOf3 rfl ?_
        refine oj_nil ?_
        refine ej_th (cj_seq (cj_region ?_))
        refine oj_step (y_loadN Try.isAgg41 Try.sizeOf41 rfl) rfl rfl rfl ?_
        refine oj_store rfl rfl rfl rfl Try.sizeOf41 rfl ?_
        refine oj_nil ?_
        refine ej_th (cj_ret ?_)
        refine ej_retC1 rfl Try.results64 rfl (y_loadN Try.isAgg41 Try.sizeOf41 rfl) (fun w' hp => ⟨?_, hp.below⟩)
        have hE : roomRr st lad x b = ⟨b.who, rungR st lad b.most, b.way, x.second, priceR lad st (rungR st lad b.most) x.second⟩ := by
          rw [roomRr_B, if_neg (by simpa using h15b), stepB, if_pos (by simpa using h35b)]
        rw [hE]
      · have h35b := h35
        try simp only [sxb] at h35
        refine cj_seq ?_
        refine cj_regionG (gj_step (y_fa0 fa41_0 rfl) rfl rfl rfl (gj_step (y_load1 Try.isAgg3 rfl rfl) rfl rfl rfl (gj_step (y_fa0 fa53_0 rfl) rfl rfl rfl (gj_step (y_load1 Try.isAgg3 rfl rfl) rfl rfl rfl (gj_step (y_eql rfl rfl) rfl rfl rfl (gj_step (y_assign rfl) rfl rfl rfl (gj_nil ?_)))))))
        refine ej_th ?_
        refine cj_cond rfl (fun h47 => ?_) (fun h47 => ?_)
        · have h47b := h47
          try simp only [sxb] at h47
          refine cj_seq ?_
          refine cj_regionG (gj_step (y_move rfl) rfl rfl rfl (gj_step (y_fa fa41_1 rfl) rfl rfl rfl (gj_step (y_load1 Try.isAgg3 rfl rfl) rfl rfl rfl (gj_step (y_gtr rfl rfl) rfl rfl rfl (gj_step (y_move rfl) rfl rfl rfl (gj_g 11 57 68 rfl rfl rfl rfl (fun hg57 => gj_yes rfl rfl rfl (y_move rfl) rfl rfl (gj_yes rfl rfl rfl (y_fa fa41_1 rfl) rfl rfl (gj_yes rfl rfl rfl (y_load1 Try.isAgg3 rfl rfl) rfl rfl (gj_yes rfl rfl rfl (y_eql rfl rfl) rfl rfl (gj_yes rfl rfl rfl (y_move rfl) rfl rfl (gj_g 5 62 67 rfl rfl rfl rfl (fun hg62 => gj_yes rfl rfl rfl (y_fa fa53_1 rfl) rfl rfl (gj_yes rfl rfl rfl (y_load1 Try.isAgg3 rfl rfl) rfl rfl (gj_yes rfl rfl rfl (y_fa fa41_2 rfl) rfl rfl (gj_yes rfl rfl rfl (y_load1 Try.isAgg3 rfl rfl) rfl rfl (gj_yes rfl rfl rfl (y_lss rfl rfl) rfl rfl (gj_nil rfl)))))) (gj_yes rfl rfl rfl (y_and rfl rfl rfl) rfl rfl (gj_nil rfl)))))))) (gj_step (y_or rfl rfl rfl) rfl rfl rfl (gj_nil ?_))))))))
          refine ej_th ?_
          refine cj_cond rfl (fun h69 => ?_) (fun h69 => ?_)
          · have h69b := h69
            try simp only [sxb] at h69
            simp only [Bool.or_eq_true, Bool.and_eq_true, beq_iff_eq, decide_eq_true_eq] at h69b
            refine cj_plan 7 (by kernel_rfl) (by kernel_rfl) ?_
            refine pl_y 0 rfl (y_move rfl) rfl rfl rfl rfl (by kernel_rfl) ?_
            refine pl_y 1 rfl (y_fa fa53_1 rfl) rfl rfl rfl rfl (by kernel_rfl) ?_
            refine pl_y 2 rfl (y_load1 Try.isAgg3 rfl rfl) rfl rfl rfl rfl (by kernel_rfl) ?_
            refine pl_y 3 rfl (y_fa fa41_1 rfl) rfl rfl rfl rfl (by kernel_rfl) ?_
            refine pl_w1 4 (by kernel_rfl) rfl rfl (pl_fire rfl rfl rfl (by kernel_rfl) ?_)
            refine oj_store rfl rfl rfl rfl Try.sizeOf3 rfl ?_
            refine oj_nil ?_
            refine ej_pl (lt_w (by kernel_rfl) (lt_y (y_load1 Try.isAgg3 rfl rfl) rfl (lt_y (y_fa fa53_1 rfl) rfl (lt_w (by kernel_rfl) (lt_nil))))) ?_
            refine pl_y 5 rfl (y_fa fa41_2 rfl) rfl rfl rfl rfl (by kernel_rfl) ?_
            refine pl_w1 6 (by kernel_rfl) rfl rfl (pl_fire rfl rfl rfl (by kernel_rfl) ?_)
            refine oj_store rfl rfl rfl rfl Try.sizeOf3 rfl ?_
            refine oj_nil ?_
            refine ej_pl (lt_w (by kernel_rfl) (lt_w (by kernel_rfl) (lt_w (by kernel_rfl) (lt_w (by kernel_rfl) (lt_w (by kernel_rfl) (lt_nil)))))) ?_
            refine pl_end (by kernel_rfl) ?_
            refine ej_blk (ej_th (cj_seq (cj_region ?_)))
            refine oj_step (y_loadN Try.isAgg24 Try.sizeOf24 rfl) rfl rfl rfl ?_
            refine oj_step (y_fa fa41_1 rfl) rfl rfl rfl ?_
            refine oj_step (y_load1 Try.isAgg3 rfl rfl) rfl rfl rfl ?_
            refine oj_step (y_fa fa41_3 rfl) rfl rfl rfl ?_
            refine oj_step (y_load1 Try.isAgg3 rfl rfl) rfl rfl rfl ?_
            refine oj_step (y_call Try.call61 rfl (fun w hp => k_rprice st rv lad Al cl _ _ w hp.rd hok.lad (by omega))) rfl rfl rfl ?_
            refine oj_step (y_fa fa41_4 rfl) rfl rfl rfl ?_
            refine oj_store rfl rfl rfl rfl Try.sizeOf3 rfl ?_
            refine oj_nil ?_
            refine ej_th (cj_seq (cj_region ?_))
            refine oj_step (y_loadN Try.isAgg41 Try.sizeOf41 rfl) rfl rfl rfl ?_
            refine oj_store rfl rfl rfl rfl Try.sizeOf41 rfl ?_
            refine oj_nil ?_
            refine ej_th (cj_ret ?_)
            refine ej_retC1 rfl Try.results64 rfl (y_loadN Try.isAgg41 Try.sizeOf41 rfl) (fun w' hp => ⟨?_, hp.below⟩)
            have hE : roomRr st lad x b = ⟨x.who, rungR st lad b.most, b.way, x.second, priceR lad st (rungR st lad b.most) x.second⟩ := by
              rw [roomRr_B, if_neg (by simpa using h15b), stepB, if_neg (by simpa using h35b), if_pos (show x.who = b.who by simpa using h47b), if_pos (show x.limit < rungR st lad b.most ∨ rungR st lad b.most = x.limit ∧ b.way < x.way by omega)]
            rw [hE]
          · have h69b := h69
            try simp only [sxb] at h69
            simp only [Bool.or_eq_false_iff, Bool.and_eq_false_iff, beq_eq_false_iff_ne, decide_eq_false_iff_not] at h69b
            refine cj_skip (ej_blk (ej_th (cj_seq (cj_region ?_))))
            refine oj_step (y_loadN Try.isAgg24 Try.sizeOf24 rfl) rfl rfl rfl ?_
            refine oj_step (y_fa fa41_1 rfl) rfl rfl rfl ?_
            refine oj_step (y_load1 Try.isAgg3 rfl rfl) rfl rfl rfl ?_
            refine oj_step (y_fa fa41_3 rfl) rfl rfl rfl ?_
            refine oj_step (y_load1 Try.isAgg3 rfl rfl) rfl rfl rfl ?_
            refine oj_step (y_call Try.call61 rfl (fun w hp => k_rprice st rv lad Al cl _ _ w hp.rd hok.lad (by omega))) rfl rfl rfl ?_
            refine oj_step (y_fa fa41_4 rfl) rfl rfl rfl ?_
            refine oj_store rfl rfl rfl rfl Try.sizeOf3 rfl ?_
            refine oj_nil ?_
            refine ej_th (cj_seq (cj_region ?_))
            refine oj_step (y_loadN Try.isAgg41 Try.sizeOf41 rfl) rfl rfl rfl ?_
            refine oj_store rfl rfl rfl rfl Try.sizeOf41 rfl ?_
            refine oj_nil ?_
            refine ej_th (cj_ret ?_)
            refine ej_retC1 rfl Try.results64 rfl (y_loadN Try.isAgg41 Try.sizeOf41 rfl) (fun w' hp => ⟨?_, hp.below⟩)
            have hE : roomRr st lad x b = ⟨x.who, x.limit, x.way, x.second, priceR lad st x.limit x.second⟩ := by
              rw [roomRr_B, if_neg (by simpa using h15b), stepB, if_neg (by simpa using h35b), if_pos (show x.who = b.who by simpa using h47b), if_neg (show ¬ (x.limit < rungR st lad b.most ∨ rungR st lad b.most = x.limit ∧ b.way < x.way) by omega)]
            rw [hE]
        · have h47b := h47
          try simp only [sxb] at h47
          refine cj_seq ?_
          refine cj_regionG ?_
          refine gj_step (y_loadN Try.isAgg95 Try.sizeOf95 rfl) rfl rfl rfl (gj_step (y_loadN Try.isAgg95 Try.sizeOf95 rfl) rfl rfl rfl (?_))
          refine gj_step (y_call Try.call59 rfl (fun w hp => k_rbeats (offer1 (rgL lad st) b) ⟨x.who, x.way, x.limit⟩ w)) rfl rfl rfl ?_
          refine gj_step (y_assign rfl) rfl rfl rfl (?_)
          refine gj_nil ?_
          refine ej_th ?_
          refine cj_cond rfl (fun h75 => ?_) (fun h75 => ?_)
          · have h75b := h75
            try simp only [sxb] at h75
            refine cj_seq (cj_region ?_)
            refine oj_step (y_fa fa41_1 rfl) rfl rfl rfl ?_
            refine oj_step (y_load1 Try.isAgg3 rfl rfl) rfl rfl rfl ?_
            refine oj_step (y_fa fa41_3 rfl) rfl rfl rfl ?_
            refine oj_store rfl rfl rfl rfl Try.sizeOf3 rfl ?_
            refine oj_nil ?_
            refine ej_th ?_
            refine cj_plan 11 (by kernel_rfl) (by kernel_rfl) ?_
            refine pl_y 0 rfl (y_fa0 fa53_0 rfl) rfl rfl rfl rfl (by kernel_rfl) ?_
            refine pl_y 1 rfl (y_load1 Try.isAgg3 rfl rfl) rfl rfl rfl rfl (by kernel_rfl) ?_
            refine pl_y 2 rfl (y_move rfl) rfl rfl rfl rfl (by kernel_rfl) ?_
            refine pl_y 3 rfl (y_fa fa53_1 rfl) rfl rfl rfl rfl (by kernel_rfl) ?_
            refine pl_y 4 rfl (y_load1 Try.isAgg3 rfl rfl) rfl rfl rfl rfl (by kernel_rfl) ?_
            refine pl_y 5 rfl (y_fa0 fa41_0 rfl) rfl rfl rfl rfl (by kernel_rfl) ?_
            refine pl_w1 6 (by kernel_rfl) rfl rfl (pl_fire rfl rfl rfl (by kernel_rfl) ?_)
            refine oj_store rfl rfl rfl rfl Try.sizeOf3 rfl ?_
            refine oj_nil ?_
            refine ej_pl (lt_w (by kernel_rfl) (lt_y (y_load1 Try.isAgg3 rfl rfl) rfl (lt_y (y_fa fa53_1 rfl) rfl (lt_y (y_move rfl) rfl (lt_w (by kernel_rfl) (lt_w (by kernel_rfl) (lt_nil))))))) ?_
            refine pl_y 7 rfl (y_fa fa41_1 rfl) rfl rfl rfl rfl (by kernel_rfl) ?_
            refine pl_w1 8 (by kernel_rfl) rfl rfl (pl_fire rfl rfl rfl (by kernel_rfl) ?_)
            refine oj_store rfl rfl rfl rfl Try.sizeOf3 rfl ?_
            refine oj_nil ?_
            refine ej_pl (lt_w (by kernel_rfl) (lt_w (by kernel_rfl) (lt_y (y_load1 Try.isAgg3 rfl rfl) rfl (lt_y (y_fa fa53_1 rfl) rfl (lt_w (by kernel_rfl) (lt_w (by kernel_rfl) (lt_w (by kernel_rfl) (lt_nil)))))))) ?_
            refine pl_y 9 rfl (y_fa fa41_2 rfl) rfl rfl rfl rfl (by kernel_rfl) ?_
            refine pl_w1 10 (by kernel_rfl) rfl rfl (pl_fire rfl rfl rfl (by kernel_rfl) ?_)
            refine oj_store rfl rfl rfl rfl Try.sizeOf3 rfl ?_
            refine oj_nil ?_
            refine ej_pl (lt_w (by kernel_rfl) (lt_w (by kernel_rfl) (lt_w (by kernel_rfl) (lt_w (by kernel_rfl) (lt_w (by kernel_rfl) (lt_w (by kernel_rfl) (lt_w (by kernel_rfl) (lt_w (by kernel_rfl) (lt_nil))))))))) ?_
            refine pl_end (by kernel_rfl) ?_
            refine ej_blk (ej_th (cj_seq (cj_region ?_)))
            refine oj_step (y_loadN Try.isAgg24 Try.sizeOf24 rfl) rfl rfl rfl ?_
            refine oj_step (y_fa fa41_1 rfl) rfl rfl rfl ?_
            refine oj_step (y_load1 Try.isAgg3 rfl rfl) rfl rfl rfl ?_
            refine oj_step (y_fa fa41_3 rfl) rfl rfl rfl ?_
            refine oj_step (y_load1 Try.isAgg3 rfl rfl) rfl rfl rfl ?_
            refine oj_step (y_call Try.call61 rfl (fun w hp => k_rprice st rv lad Al cl _ _ w hp.rd hok.lad (by omega))) rfl rfl rfl ?_
            refine oj_step (y_fa fa41_4 rfl) rfl rfl rfl ?_
            refine oj_store rfl rfl rfl rfl Try.sizeOf3 rfl ?_
            refine oj_nil ?_
            refine ej_th (cj_seq (cj_region ?_))
            refine oj_step (y_loadN Try.isAgg41 Try.sizeOf41 rfl) rfl rfl rfl ?_
            refine oj_store rfl rfl rfl rfl Try.sizeOf41 rfl ?_
            refine oj_nil ?_
            refine ej_th (cj_ret ?_)
            refine ej_retC1 rfl Try.results64 rfl (y_loadN Try.isAgg41 Try.sizeOf41 rfl) (fun w' hp => ⟨?_, hp.below⟩)
            have hE : roomRr st lad x b = ⟨b.who, rungR st lad b.most, b.way, x.limit, priceR lad st (rungR st lad b.most) x.limit⟩ := by
              rw [roomRr_B, if_neg (by simpa using h15b), stepB, if_neg (by simpa using h35b), if_neg (show ¬ x.who = b.who by simpa using h47b), if_pos (show beats ⟨b.who, b.way, rungR st lad b.most⟩ ⟨x.who, x.way, x.limit⟩ = true from h75b)]
            rw [hE]
          · have h75b := h75
            try simp only [sxb] at h75
            refine cj_region ?_
            refine oj_step (y_fa fa41_3 rfl) rfl rfl rfl ?_
            refine oj_step (y_load1 Try.isAgg3 rfl rfl) rfl rfl rfl ?_
            refine oj_step (y_move rfl) rfl rfl rfl ?_
            refine oj_step (y_max rfl rfl) rfl rfl rfl ?_
            refine oj_step (y_fa fa41_3 rfl) rfl rfl rfl ?_
            refine oj_store rfl rfl rfl rfl Try.sizeOf3 rfl ?_
            refine oj_nil ?_
            refine ej_blk (ej_th (cj_seq (cj_region ?_)))
            refine oj_step (y_loadN Try.isAgg24 Try.sizeOf24 rfl) rfl rfl rfl ?_
            refine oj_step (y_fa fa41_1 rfl) rfl rfl rfl ?_
            refine oj_step (y_load1 Try.isAgg3 rfl rfl) rfl rfl rfl ?_
            refine oj_step (y_fa fa41_3 rfl) rfl rfl rfl ?_
            refine oj_step (y_load1 Try.isAgg3 rfl rfl) rfl rfl rfl ?_
            refine oj_step (y_call Try.call61 rfl (fun w hp => k_rprice st rv lad Al cl _ _ w hp.rd hok.lad (by omega))) rfl rfl rfl ?_
            refine oj_step (y_fa fa41_4 rfl) rfl rfl rfl ?_
            refine oj_store rfl rfl rfl rfl Try.sizeOf3 rfl ?_
            refine oj_nil ?_
            refine ej_th (cj_seq (cj_region ?_))
            refine oj_step (y_loadN Try.isAgg41 Try.sizeOf41 rfl) rfl rfl rfl ?_
            refine oj_store rfl rfl rfl rfl Try.sizeOf41 rfl ?_
            refine oj_nil ?_
            refine ej_th (cj_ret ?_)
            refine ej_retC1 rfl Try.results64 rfl (y_loadN Try.isAgg41 Try.sizeOf41 rfl) (fun w' hp => ⟨?_, hp.below⟩)
            have hE : roomRr st lad x b = ⟨x.who, x.limit, x.way, max x.second (rungR st lad b.most), priceR lad st x.limit (max x.second (rungR st lad b.most))⟩ := by
              rw [roomRr_B, if_neg (by simpa using h15b), stepB, if_neg (by simpa using h35b), if_neg (show ¬ x.who = b.who by simpa using h47b), if_neg (show ¬ beats ⟨b.who, b.way, rungR st lad b.most⟩ ⟨x.who, x.way, x.limit⟩ = true by rw [show beats ⟨b.who, b.way, rungR st lad b.most⟩ ⟨x.who, x.way, x.limit⟩ = false from h75b]; simp)]
            rw [hE]

theorem k_rRoom (st rv : Int) (lad : List RiseV) (Al : Option Addr) (cl : Nat) (bs : List BidV) (Ab : Option Addr) (cb : Nat) (w : World) (hlad : Rd w 2 encRi Al lad) (hbs : Rd w 3 encBi Ab bs) : Calls Try.prog 25 #[.agg #[.int .i64 st, .int .i64 rv, .slice Al lad.length cl], .slice Ab bs.length cb] w (fun e w' => ∃ A c, e = .returned (.tuple #[.slice A (RoomL st rv lad bs).length c, .int .i64 (SellE st rv lad bs)]) ∧ Grow w w' ∧ Res w w' 5 encLe A (RoomL st rv lad bs)) := by
  have hlen := hbs.len
  refine enter_pure (args := [.agg #[.int .i64 st, .int .i64 rv, .slice Al lad.length cl], .slice Ab bs.length cb]) [sl (fun b => b < w.heap.size) 2 encRi Al lad, sl (fun b => b < w.heap.size) 3 encBi Ab bs] Try.func25 rfl (by rw [Try.ntmps25]; simp) (fun g hg => by simp at hg; rcases hg with rfl | rfl; exact ⟨hlad, fun _ h => h⟩; exact ⟨hbs, fun _ h => h⟩) ?_
  refine cj_seq (cj_region ?_)
  refine oj_box rfl rfl rfl (fun b2 => ?_)
  refine oj_step (y_assign rfl) rfl rfl rfl ?_
  refine oj_step (y_assign rfl) rfl rfl rfl ?_
  refine oj_nil ?_
  refine ej_th (cj_seq (cj_seq ?_))
  refine cj_regionG ?_
  refine gj_step (y_loadN Try.isAgg24 Try.sizeOf24 rfl) rfl rfl rfl (?_)
  refine gj_step (y_call Try.call18 rfl (fun w hp => k_rCheck st rv lad Al cl w hp.rd)) rfl rfl rfl ?_
  refine gj_step (y_assign rfl) rfl rfl rfl (?_)
  refine gj_nil ?_
  refine ej_th (cj_seq ?_)
  refine cj_regionG (gj_step (y_move rfl) rfl rfl rfl (gj_step (y_neq rfl rfl) rfl rfl rfl (gj_nil ?_)))
  refine ej_th ?_
  refine cj_cond rfl (fun h13 => ?_) (fun h13 => ?_)
  · have h13b := h13
    try simp only [sxb] at h13
    have hno := lotE_no h13b
    refine cj_seq ?_
    refine cj_regionG (gj_step (y_move rfl) rfl rfl rfl (gj_step (y_assign rfl) rfl rfl rfl (gj_step (y_assign rfl) rfl rfl rfl (gj_nil ?_))))
    refine ej_th (cj_ret (ej_then_ret ?_))
    obtain ⟨e1, e2⟩ := room_no (bs := bs) hno
    exact ej_ret2 rfl Try.results25 rfl rfl (fun w' hp => ⟨none, 0, by rw [e1, e2, lotE, hno]; rfl, hp.below, by rw [e1]; exact Res.nil⟩)
  · have h13b := h13
    try simp only [sxb] at h13
    have hyes := lotE_0 h13b
    have hok := lot_ok hyes
    refine cj_skip (ej_th (cj_seq (cj_seq ?_)))
    refine cj_regionG ?_
    refine gj_step (y_move rfl) rfl rfl rfl (?_)
    refine gj_step (y_call Try.call57 rfl (fun w hp => k_bidding bs Ab cb w hp.rd)) rfl rfl rfl ?_
    refine gj_step (y_not rfl) rfl rfl rfl (?_)
    refine gj_nil ?_
    refine ej_th ?_
    refine cj_cond rfl (fun h17 => ?_) (fun h17 => ?_)
    · have h17b := h17
      try simp only [sxb] at h17
      have hbn := not_t h17b
      refine cj_seq ?_
      refine cj_regionG (gj_step (y_assign rfl) rfl rfl rfl (gj_step (y_assign rfl) rfl rfl rfl (gj_nil ?_)))
      refine ej_th (cj_ret (ej_then_ret ?_))
      obtain ⟨e1, e2⟩ := room_no2 hyes hbn
      exact ej_ret2 rfl Try.results25 rfl rfl (fun w' hp => ⟨none, 0, by rw [e1, e2]; rfl, hp.below, by rw [e1]; exact Res.nil⟩)
    · have h17b := h17
      try simp only [sxb] at h17
      have hby := not_f h17b
      have hbo := bids_ok hby
      obtain ⟨e1, e2⟩ := room_yes hyes hby
      refine cj_skip (ej_th (cj_seq ?_))
      refine cj_regionG (gj_step (y_assign rfl) rfl rfl rfl (gj_nil ?_))
      refine ej_th (cj_seq (cj_region ?_))
      refine oj_step (y_build (cs := [.int .i64 (-1), .int .i64 0, .int .i64 0, .int .i64 0, .int .i64 0]) st41 rfl (by kernel_rfl)) rfl rfl rfl ?_
      refine oj_alloc Try.zeroValue41 rfl rfl (fun b8 => ?_)
      refine oj_store rfl rfl rfl rfl Try.sizeOf41 rfl ?_
      refine oj_nil ?_
      refine ej_th (cj_seq (cj_seq ?_))
      refine cj_regionG (gj_step (y_assign rfl) rfl rfl rfl (gj_nil ?_))
      refine ej_th (cj_block ?_)
      refine cj_ownNil 41 5 encLe ?_
      refine cj_swapO ?_
      refine cj_eqO [ownB b8 (cellsB 41 [.int .i64 lead0.who, .int .i64 lead0.limit, .int .i64 lead0.way, .int .i64 lead0.second, .int .i64 lead0.price]), ow 41 5 encLe none 0 [], ownB b2 (cellsB 24 [.int .i64 st, .int .i64 rv, .slice Al lad.length cl])] rfl ?_
      refine cj_lpi (X := Nat × LeadV × Option Addr × Nat × List LeadV) [(1, _), (2, _), (4, _), (5, _), (8, _)] (fun ⟨k, x, A1, c1, outs⟩ => k ≤ bs.length ∧ outs.length = k ∧ x = roomE (rgL lad st) st (bs.take k) ∧ outs ++ roomG (rgL lad st) st x (bs.drop k) = roomG (rgL lad st) st lead0 bs) (fun ⟨k, x, A1, c1, outs⟩ => [(7, .slice A1 outs.length c1), (9, .int .i64 k)]) (fun ⟨k, x, A1, c1, outs⟩ => [ownB b8 (cellsB 41 [.int .i64 x.who, .int .i64 x.limit, .int .i64 x.way, .int .i64 x.second, .int .i64 x.price]), ow 41 5 encLe A1 c1 outs, ownB b2 (cellsB 24 [.int .i64 st, .int .i64 rv, .slice Al lad.length cl])]) (fun ⟨k, x, A1, c1, outs⟩ => [sl (fun b => b < w.heap.size) 2 encRi Al lad, sl (fun b => b < w.heap.size) 3 encBi Ab bs]) (fun ⟨k, x, A1, c1, outs⟩ => bs.length - k) (0, lead0, none, 0, []) (⟨Nat.zero_le _, rfl, rfl, rfl⟩) ⟨rfl, rfl, rfl, rfl, rfl, rfl, rfl, trivial⟩ ?_
      rintro ⟨k, x, A1, c1, outs⟩ ⟨hk, holn, hxe, hout⟩
      dsimp only [List.cons_append, List.nil_append]
      refine cj_seq (cj_seq ?_)
      refine cj_regionG (gj_step (y_move rfl) rfl rfl rfl (gj_step (y_move rfl) rfl rfl rfl (gj_step (y_lenA Try.underlying32 rfl) rfl rfl rfl (gj_step (y_lss rfl rfl) rfl rfl rfl (gj_nil ?_)))))
      refine ej_th ?_
      refine cj_cond rfl (fun h22 => ?_) (fun h22 => ?_)
      · have h22b := h22
        try simp only [sxb] at h22
        obtain ⟨b, hx⟩ : ∃ b, bs[k]? = some b := ⟨_, List.getElem?_eq_getElem (by omega)⟩
        rw [roomG_drop (rgL lad st) st bs k b x hx] at hout
        have hrt := roomE_take (rgL lad st) st bs k b hx
        rw [← hxe] at hrt
        have hlb := lead_bd hok (fun c hc => (hbo.2 c hc).1) hk
        rw [← hxe] at hlb
        have hst := room_step hok (fun c hc => (hbo.2 c hc).1) hx
        rw [← hxe] at hst
        refine cj_skip (ej_th (cj_seq (cj_block (cj_seq ?_))))
        refine cj_plan 8 (by kernel_rfl) (by kernel_rfl) ?_
        refine pl_y 0 rfl (y_loadN Try.isAgg24 Try.sizeOf24 rfl) rfl rfl rfl rfl (by kernel_rfl) ?_
        refine pl_y 1 rfl (y_loadN Try.isAgg41 Try.sizeOf41 rfl) rfl rfl rfl rfl (by kernel_rfl) ?_
        refine pl_y 2 rfl (y_move rfl) rfl rfl rfl rfl (by kernel_rfl) ?_
        refine pl_y 3 rfl (y_move rfl) rfl rfl rfl rfl (by kernel_rfl) ?_
        refine pl_y 4 rfl (y_ixR (reads_sl) Try.underlying32 Try.sizeOf53 rfl rfl (⟨by omega, by omega⟩)) rfl rfl rfl rfl (by kernel_rfl) ?_
        refine pl_y 5 rfl (y_ldW (reads_sl) Try.isAgg53 Try.sizeOf53 rfl (hx) (fun _ => rfl)) rfl rfl rfl rfl (by kernel_rfl) ?_
        refine pl_y 6 rfl (y_call Try.call64 rfl (fun w hp => k_rbid st rv lad Al cl x b w hp.rd hok hlb)) rfl rfl rfl rfl (by kernel_rfl) ?_
        refine pl_w1 7 (by kernel_rfl) rfl rfl (pl_fire rfl rfl rfl (by kernel_rfl) ?_)
        refine oj_store rfl rfl rfl rfl Try.sizeOf41 rfl ?_
        refine oj_nil ?_
        refine ej_pl (lt_w (by kernel_rfl) (lt_w (by kernel_rfl) (lt_w (by kernel_rfl) (lt_w (by kernel_rfl) (lt_w (by kernel_rfl) (lt_w (by kernel_rfl) (lt_w (by kernel_rfl) (lt_nil)))))))) ?_
        refine pl_end (by kernel_rfl) ?_
        refine ej_th ?_
        rw [hst]
        refine cj_region ?_
        refine oj_step (y_move rfl) rfl rfl rfl ?_
        refine oj_step (y_loadN Try.isAgg41 Try.sizeOf41 rfl) rfl rfl rfl ?_
        refine oj_buildSlice (cs := [.int .i64 (roomS (rgL lad st) st x b).who, .int .i64 (roomS (rgL lad st) st x b).limit, .int .i64 (roomS (rgL lad st) st x b).way, .int .i64 (roomS (rgL lad st) st x b).second, .int .i64 (roomS (rgL lad st) st x b).price]) [.int .i64 0, .int .i64 0, .int .i64 0, .int .i64 0, .int .i64 0] Try.underlying37 Try.sizeOf41 Try.zeroValue41 rfl rfl (by kernel_rfl) (by kernel_rfl) rfl (fun b34 => ?_)
        refine oj_append  el37 (fun _ => rfl) encLe_one rfl rfl rfl (reads_lit [(roomS (rgL lad st) st x b)] (fun _ => rfl) rfl) (by unfold maxLen; simp only [List.length_cons, List.length_nil]; omega) (by simp only [List.length_cons, List.length_nil]; omega) rfl (fun A35 c35 => ?_)
        refine oj_step (y_assign rfl) rfl rfl rfl ?_
        refine oj_nil ?_
        refine ej_blk (ej_th ?_)
        refine cj_regionG (gj_step (y_move rfl) rfl rfl rfl (gj_step (y_add rfl rfl (by omega)) rfl rfl rfl (gj_step (y_assign rfl) rfl rfl rfl (gj_nil ?_))))
        exact ej_nx (k + 1, roomS (rgL lad st) st x b, A35, c35, outs ++ [roomS (rgL lad st) st x b]) (by simp only; omega) ⟨by first | omega | (simp only; omega), by simp only [List.length_append, List.length_cons, List.length_nil]; omega, hrt.symm, by rw [← hout]; simp⟩ ⟨rfl, rfl, rfl, rfl, rfl, rfl, rfl, trivial⟩
      · have h22b := h22
        try simp only [sxb] at h22
        refine cj_exit (ej_then_exit (ej_then_exit (ej_blk_hit (ej_th (cj_seq ?_)))))
        refine cj_regionG (gj_step (y_move rfl) rfl rfl rfl (gj_step (y_assign rfl) rfl rfl rfl (gj_step (y_assign rfl) rfl rfl rfl (gj_nil ?_))))
        refine ej_th (cj_ret ?_)
        have hoe : outs = RoomL st rv lad bs := by rw [e1, ← hout, List.drop_of_length_le (by omega)]; simp [roomG]
        have hol : outs.length ≤ 32 := by omega
        exact ej_ret2 rfl Try.results25 rfl rfl (fun w' hp => ⟨A1, c1, by rw [← hoe, e2], hp.below, by rw [← hoe]; exact hp.res (fun _ => rfl) (by unfold maxLen; omega)⟩)

end Go.Proofs.Ytehmifpofpifkaa
namespace Go.Proofs.Ytehmifpofpifkaa
open Go Go.Sx Go.RowKit Am

structure ListV where
  A : Option Addr
  c : Nat
  l : List Int
abbrev encLs (x : ListV) : List Value := [.slice x.A x.l.length x.c]
def GoodL (w : World) (x : ListV) : Prop := Rd w 1 enInt x.A x.l
theorem GoodL.mono {w w' : World} {x : ListV} (h : GoodL w x) (hg : Grow w w') : GoodL w' x := Rd.mono h hg
/-- all rows read as they are -/
def rwF (fp : Nat → Prop) (vs : List ListV) : Fact where
  fp := fp
  P := fun w => ∀ r ∈ vs, (sl fp 1 enInt r.A r.l).P w
  stab := fun h k r hr => (sl fp 1 enInt r.A r.l).stab h (k r hr)
theorem rw_good {F : Nat → Prop} {w0 w : World} {O S : List Fact} (hp : Hp F w0 O S w) {fp : Nat → Prop} {vs : List ListV} (h : rwF fp vs ∈ S) : ∀ r ∈ vs, GoodL w r := fun r hr => sl_fp ((hp.shared _ h).1 r hr) (fun i hi => (hp.shared _ h).2.1 i hi)
def rowsV (vs : List ListV) : List (List Int) := vs.map (fun r : ListV => r.l)
theorem rowsV_len (vs : List ListV) : (rowsV vs).length = vs.length := by simp [rowsV]
theorem rowsV_get {vs : List ListV} {i : Nat} {r : ListV} (h : vs[i]? = some r) : (rowsV vs)[i]? = some r.l := by unfold rowsV; rw [List.getElem?_map, h]; rfl
theorem vv_get {vs : List ListV} {i j : Nat} {r : ListV} {x : Int} (h : vs[i]? = some r) (hx : r.l[j]? = some x) : vv (rowsV vs) i j = x := by
  unfold vv
  rw [List.getD_eq_getElem?_getD (l := rowsV vs), rowsV_get h]
  simp only [Option.getD_some]
  rw [List.getD_eq_getElem?_getD, hx]; rfl
def okv (n : Int) : Bool := btw 0 n 100000
theorem okv_V (n : Int) : (!(decide (0 ≤ n) && decide (n ≤ 100000))) = !(okv n) := rfl
def rowOk (m : Nat) (r : ListV) : Bool := ((r.l.length : Int) == (m : Int)) && r.l.all okv
def cloB (res : List Int) (vs : List ListV) : Bool := ((btw 1 res.length 5 && res.all okv) && btw 1 vs.length 6) && vs.all (rowOk res.length)
def cloE (res : List Int) (vs : List ListV) : Int := if cloB res vs = true then 0 else 62
structure CloOk (res : List Int) (rows : List (List Int)) : Prop where
  m : res.length ≤ 6
  n : rows.length ≤ 6
  len : ∀ r ∈ rows, r.length = res.length
  res : ∀ x ∈ res, 0 ≤ x ∧ x ≤ 100000
  val : ∀ r ∈ rows, ∀ x ∈ r, 0 ≤ x ∧ x ≤ 100000
theorem CloOk.nn {res : List Int} {rows : List (List Int)} (h : CloOk res rows) : nnL res ∧ ∀ r ∈ rows, nnL r := ⟨fun x hx => (h.res x hx).1, fun r hr x hx => (h.val r hr x hx).1⟩
theorem clo_ok {res : List Int} {vs : List ListV} (h : cloB res vs = true) : CloOk res (rowsV vs) ∧ (1 ≤ res.length ∧ res.length ≤ 5) ∧ (1 ≤ vs.length ∧ vs.length ≤ 6) := by
  unfold cloB at h
  simp only [Bool.and_eq_true, btw_t] at h
  obtain ⟨⟨⟨h1, h2⟩, h3⟩, h4⟩ := h
  have hr : ∀ r ∈ rowsV vs, r.length = res.length ∧ ∀ x ∈ r, 0 ≤ x ∧ x ≤ 100000 := by
    intro r hr
    obtain ⟨v, hv, e⟩ := List.mem_map.1 hr
    have := List.all_eq_true.1 h4 v hv
    unfold rowOk at this
    rw [Bool.and_eq_true, beq_iff_eq] at this
    rw [← e]
    exact ⟨by have := this.1; omega, fun x hx => btw_t.1 (List.all_eq_true.1 this.2 x hx)⟩
  refine ⟨⟨by omega, by rw [rowsV_len]; omega, fun r h => (hr r h).1, fun x hx => btw_t.1 (List.all_eq_true.1 h2 x hx), fun r h => (hr r h).2⟩, by omega, by omega⟩
theorem cloE_0 {res : List Int} {vs : List ListV} (h : (cloE res vs != 0) = false) : cloB res vs = true := by
  unfold cloE at h
  cases hb : cloB res vs with
  | true => rfl
  | false => rw [hb] at h; simp at h
theorem cloE_no {res : List Int} {vs : List ListV} (h : (cloE res vs != 0) = true) : cloB res vs = false := by
  unfold cloE at h
  cases hb : cloB res vs with
  | true => rw [hb] at h; simp at h
  | false => rfl
def cloH (res : List Int) (vs : List ListV) : Bool := (btw 1 res.length 5 && res.all okv) && btw 1 vs.length 6
theorem cloH_V (res : List Int) (vs : List ListV) : (((!(decide ((1 : Int) ≤ res.length) && decide ((res.length : Int) ≤ 5))) || !(res.all okv)) || !(decide ((1 : Int) ≤ vs.length) && decide ((vs.length : Int) ≤ 6))) = !(cloH res vs) := by
  unfold cloH btw
  rw [← Bool.not_and, ← Bool.not_and]
theorem cloB_H (res : List Int) (vs : List ListV) : cloB res vs = (cloH res vs && vs.all (rowOk res.length)) := rfl
theorem row_V (m : Nat) (r : ListV) : (((r.l.length : Int) != (m : Int)) || !(r.l.all okv)) = !(rowOk m r) := by
  unfold rowOk
  rw [Bool.not_and]; rfl
/-! lists that fit -/
theorem seek_has : ∀ (l : List Int) (n i : Int), 0 ≤ i → decide (0 ≤ seek l n i) = l.contains n
  | [], n, i, _ => by simp [seek]
  | x :: l, n, i, h => by
    rw [seek]
    by_cases hx : x = n
    · rw [if_pos hx, hx]; simp [h]
    · rw [if_neg hx, seek_has l n (i + 1) (by omega), List.contains_cons]
      have : (n == x) = false := beq_eq_false_iff_ne.2 (fun e => hx e.symm)
      rw [this, Bool.false_or]
theorem seek_N : ∀ (l : List Int) (n i : Int), seek l n i = seekN l n i
  | [], _, _ => rfl
  | x :: l, n, i => by rw [seek, seekN, seek_N l n (i + 1)]
theorem seek_at {l : List Int} {k : Nat} {x : Int} (h : l[k]? = some x) : (seek l x 0 != (k : Int)) = (l.take k).contains x := by
  rw [seek_N, show seekN l x 0 = seekN l x ((0 : Nat) : Int) from rfl]
  have first : ∀ (l : List Int) (i k : Nat), l[k]? = some x → (x ∉ l.take k → seekN l x (i : Nat) = ((i + k : Nat) : Int)) ∧ (x ∈ l.take k → seekN l x (i : Nat) < ((i + k : Nat) : Int)) := by
    intro l
    induction l with
    | nil => intro i k h; simp at h
    | cons y l ih =>
      intro i k h
      rw [seekN]
      cases k with
      | zero => simp at h; subst h; simp
      | succ k =>
        simp at h
        obtain ⟨a, b⟩ := ih (i + 1) k h
        rw [List.take_succ_cons]
        by_cases hy : y = x
        · rw [if_pos hy]
          refine ⟨fun hn => absurd (by rw [hy]; exact List.mem_cons_self ..) hn, fun _ => by omega⟩
        · rw [if_neg hy, show ((i : Nat) : Int) + 1 = ((i + 1 : Nat) : Int) by omega]
          refine ⟨fun hn => ?_, fun hm => ?_⟩
          · rw [a (fun h => hn (List.mem_cons_of_mem _ h))]; omega
          · rcases List.mem_cons.1 hm with e | e
            · exact absurd e.symm hy
            · have := b e; omega
  obtain ⟨a, b⟩ := first l 0 k h
  by_cases hm : x ∈ l.take k
  · rw [List.contains_iff_mem.2 hm]
    have := b hm
    simp only [bne_iff_ne]; omega
  · have hc : (l.take k).contains x = false := by
      cases hc : (l.take k).contains x with
      | false => rfl
      | true => exact absurd (List.contains_iff_mem.1 hc) hm
    rw [hc, a hm]; simp
def ok1 (m : Nat) (to : List Int) (x : Int) (k : Nat) : Bool := btw (-1) x ((m : Int) - 1) && !(decide (0 ≤ x) && (to.take k).contains x)
def okF (m : Nat) (to : List Int) : List Int → Nat → Bool
  | [], _ => true
  | x :: t, k => ok1 m to x k && okF m to t (k + 1)
theorem okF_drop (m : Nat) (to : List Int) (k : Nat) (x : Int) (h : to[k]? = some x) : okF m to (to.drop k) k = (ok1 m to x k && okF m to (to.drop (k + 1)) (k + 1)) := by
  obtain ⟨h1, h2⟩ := List.getElem?_eq_some_iff.1 h
  rw [List.drop_eq_getElem_cons h1, h2, okF]
theorem ok1_V (m : Nat) (to : List Int) (x : Int) (k : Nat) : ((!(decide (-1 ≤ x) && decide (x ≤ (m : Int) - 1))) || (decide (0 ≤ x) && (to.take k).contains x)) = !(ok1 m to x k) := by
  unfold ok1 btw
  generalize (decide (-1 ≤ x) && decide (x ≤ (m : Int) - 1)) = a
  generalize (decide (0 ≤ x) && (to.take k).contains x) = b
  cases a <;> cases b <;> rfl
theorem okF_ok (m : Nat) (to : List Int) : okF m to to 0 = true ↔ OkL m to := by
  have key : ∀ d k, k + d = to.length → (okF m to (to.drop k) k = true ↔ ∀ j x, k ≤ j → to[j]? = some x → ok1 m to x j = true) := by
    intro d
    induction d with
    | zero =>
      intro k hk
      rw [List.drop_of_length_le (by omega)]
      refine ⟨fun _ j x hj hx => ?_, fun _ => rfl⟩
      have := (List.getElem?_eq_some_iff.1 hx).1; omega
    | succ d ih =>
      intro k hk
      have hx : to[k]? = some to[k] := List.getElem?_eq_getElem (by omega)
      rw [okF_drop m to k _ hx, Bool.and_eq_true, ih (k + 1) (by omega)]
      constructor
      · rintro ⟨h1, h2⟩ j x hj hx'
        by_cases e : j = k
        · subst e; rw [hx] at hx'; cases hx'; exact h1
        · exact h2 j x (by omega) hx'
      · intro h
        exact ⟨h k _ (Nat.le_refl _) hx, fun j x hj hx' => h j x (by omega) hx'⟩
  have h0 := key to.length 0 (by omega)
  rw [List.drop_zero] at h0
  rw [h0]
  constructor
  · intro h
    refine ok_of (fun k hk => ?_) (fun i i' k hi hi' hk0 => ?_)
    · obtain ⟨j, hj⟩ := List.mem_iff_getElem?.1 hk
      have := h j k (Nat.zero_le _) hj
      unfold ok1 at this
      have := btw_t.1 (Bool.and_eq_true_iff.1 this).1
      omega
    · have aux : ∀ a b : Nat, a < b → to[a]? = some k → to[b]? = some k → False := by
        intro a b hab ha hb
        have := h b k (Nat.zero_le _) hb
        unfold ok1 at this
        have h2 := (Bool.and_eq_true_iff.1 this).2
        have hm : k ∈ to.take b := List.mem_of_getElem? (by rw [List.getElem?_take, if_pos hab]; exact ha)
        rw [List.contains_iff_mem.2 hm, decide_eq_true hk0] at h2
        simp at h2
      by_cases e : i = i'
      · exact e
      · rcases Nat.lt_or_ge i i' with hl | hl
        · exact (aux i i' hl hi hi').elim
        · exact (aux i' i (by omega) hi' hi).elim
  · intro h j x _ hx
    unfold ok1
    have hr := h.rng x (List.mem_of_getElem? hx)
    rw [Bool.and_eq_true, btw_t]
    refine ⟨by omega, ?_⟩
    by_cases h0 : 0 ≤ x
    · have : (to.take j).contains x = false := by
        cases hc : (to.take j).contains x with
        | false => rfl
        | true =>
          obtain ⟨i, hi⟩ := List.mem_iff_getElem?.1 (List.contains_iff_mem.1 hc)
          have hij := (List.getElem?_eq_some_iff.1 hi).1
          rw [List.length_take] at hij
          rw [List.getElem?_take, if_pos (by omega)] at hi
          have := ok_inj h hi hx h0
          omega
      rw [this]; simp
    · rw [decide_eq_false h0]; rfl
def fitsB (m n : Nat) (to : List Int) : Bool := okF m to to 0 && decide ((to.length : Int) = (n : Int))
theorem fits_ok {m n : Nat} {to : List Int} (h : fitsB m n to = true) : OkL m to ∧ to.length = n := by
  unfold fitsB at h
  rw [Bool.and_eq_true, okF_ok, decide_eq_true_eq] at h
  exact ⟨h.1, by omega⟩
/-- what the map holds -/
def HadIs (l : List (Int × Bool)) (pre : List Int) : Prop := ∀ q, (getL l q).getD false = pre.contains q
theorem had_put {l : List (Int × Bool)} {pre : List Int} (h : HadIs l pre) (x : Int) : HadIs (putL l x true) (pre ++ [x]) := by
  intro q
  rw [getL_put]
  by_cases hq : x = q
  · subst hq; rw [if_pos rfl]; simp
  · rw [if_neg hq, h q]
    rw [Bool.eq_iff_iff, List.contains_iff_mem, List.contains_iff_mem, List.mem_append]
    exact ⟨.inl, fun h => h.resolve_right (by simp; exact fun e => hq e.symm)⟩
theorem ow_sl {α : Type} {fp' : Nat → Prop} {e sz c : Nat} {enc : α → List Value} {A : Option Addr} {xs : List α} {w : World} (h : (ow e sz enc A c xs).P w) (he : ∀ x, (enc x).length = sz) (hm : xs.length ≤ maxLen) (hf : ∀ b, (ow e sz enc A c xs).fp b → fp' b) : (sl fp' sz enc A xs).P w := by
  refine ⟨hm, fun hne => ?_⟩
  obtain ⟨a, ha, hc⟩ := ow_cells h he hne
  exact ⟨a, ha, hf _ (by rw [ha]; rfl), hc⟩
theorem Hp.frz {F : Nat → Prop} {w0 w : World} {O O' S : List Fact} (hp : Hp F w0 O S w) (o f : Fact) (hs : (o :: O').Sublist O) (hP : f.P w) (hfp : ∀ b, f.fp b → o.fp b ∨ ∃ g ∈ S, g.fp b) : Hp F w0 O' (f :: S) w := by
  have h1 := hp.sub (O' := o :: O') (S' := S) hs (fun _ h => h)
  have h2 := hp.sub (O' := O') (S' := S) ((List.sublist_cons_self o O').trans hs) (fun _ h => h)
  refine ⟨h2.os, h2.tape, h2.output, h2.size, h2.fr, h2.own, h2.apart, fun g hg => ?_⟩
  rcases List.mem_cons.1 hg with rfl | hg
  · refine ⟨hP, fun b hb => ?_, fun q hq b hb hqb => ?_⟩
    · rcases hfp b hb with h | ⟨g, hg, h⟩
      · exact ((h1.own o (List.mem_cons_self ..)).2 b h).1
      · exact (h2.shared g hg).2.1 b h
    · rcases hfp b hb with h | ⟨g, hg, h⟩
      · exact (List.pairwise_cons.1 h1.apart).1 q hq b h hqb
      · exact (h2.shared g hg).2.2 q hq b h hqb
  · exact h2.shared g hg
theorem ej_frz {C : Cx} {Q : Exit → Act → World → Prop} {e : Exit} {L : Regs} {O O' S : List Fact} (o f : Fact) [hs : SubO (o :: O') O] (hP : ∀ w, Hp C.F C.w0 O S w → f.P w) (hfp : ∀ b, f.fp b → o.fp b ∨ ∃ g ∈ S, g.fp b) (k : EJ C Q e L O' (f :: S)) : EJ C Q e L O S :=
  fun a w hr hp => k a w hr (Hp.frz hp o f hs.sub (hP w hp) hfp)
/-- one more row -/
theorem rows_snoc {F : Nat → Prop} {w0 w : World} {O S : List Fact} (hp : Hp F w0 O S w) {fp : Nat → Prop} {rs : List ListV} {e c : Nat} {A : Option Addr} {l : List Int} (hm : l.length ≤ maxLen) (h : rwF fp rs ∈ S) (ho : ow e 1 enInt A c l ∈ O) : (rwF (fun i => fp i ∨ (ow e 1 enInt A c l).fp i) (rs ++ [⟨A, c, l⟩])).P w := by
  intro r hr
  rcases List.mem_append.1 hr with hr | hr
  · exact sl_fp ((hp.shared _ h).1 r hr) (fun b hb => .inl hb)
  · rw [List.mem_singleton.1 hr]
    exact ow_sl (hp.own _ ho).1 enInt_len hm (fun b hb => .inr hb)
theorem encLs_one (x : ListV) : ∀ v ∈ encLs x, v.oneCell' = true := by simp [encLs, Value.oneCell']
theorem rows_new {w0 w : World} {O S : List Fact} (hp : Hp (fun b => b < w0.heap.size) w0 O S w) {fp : Nat → Prop} {rs : List ListV} {e c : Nat} {A : Option Addr} {l : List Int} (hfp : ∀ b, fp b → w0.heap.size ≤ b) (hm : l.length ≤ maxLen) (h : rwF fp rs ∈ S) (ho : ow e 1 enInt A c l ∈ O) : (rwF (fun i => (fp i ∨ (ow e 1 enInt A c l).fp i) ∧ w0.heap.size ≤ i) (rs ++ [⟨A, c, l⟩])).P w := by
  intro r hr
  rcases List.mem_append.1 hr with hr | hr
  · exact sl_fp ((hp.shared _ h).1 r hr) (fun b hb => ⟨.inl hb, hfp b hb⟩)
  · rw [List.mem_singleton.1 hr]
    exact ow_sl (hp.own _ ho).1 enInt_len hm (fun b hb => ⟨.inr hb, Nat.le_of_not_lt ((hp.own _ ho).2 b hb).2⟩)
theorem with_facts {w0 w : World} {O S : List Fact} (hp : Hp (fun b => b < w0.heap.size) w0 O S w) {fp : Nat → Prop} {rs : List ListV} {A Av : Option Addr} {c cv : Nat} {l : List Int} (hfp : ∀ b, fp b → w0.heap.size ≤ b) (hl : l.length ≤ maxLen) (hr : rs.length ≤ maxLen) (h1 : ow 3 1 enInt A c l ∈ O) (h2 : ow 43 1 encLs Av cv rs ∈ O) (h3 : rwF fp rs ∈ S) :
    ∀ g ∈ [sl (fun i => w0.heap.size ≤ i ∧ i < w.heap.size) 1 enInt A l, sl (fun i => w0.heap.size ≤ i ∧ i < w.heap.size) 1 encLs Av rs, rwF (fun i => w0.heap.size ≤ i ∧ i < w.heap.size) rs], g.P w ∧ ∀ b, g.fp b → w0.heap.size ≤ b ∧ b < w.heap.size ∧ ∀ o ∈ ([] : List Fact), ¬ o.fp b := by
  intro g hg
  have hn : ∀ o ∈ O, ∀ b, o.fp b → w0.heap.size ≤ b ∧ b < w.heap.size := fun o ho b hb => ⟨Nat.le_of_not_lt ((hp.own o ho).2 b hb).2, ((hp.own o ho).2 b hb).1⟩
  simp only [List.mem_cons, List.mem_nil_iff, or_false] at hg
  rcases hg with rfl | rfl | rfl
  · exact ⟨ow_sl (hp.own _ h1).1 enInt_len hl (fun b hb => hn _ h1 b hb), fun b hb => ⟨hb.1, hb.2, by simp⟩⟩
  · exact ⟨ow_sl (hp.own _ h2).1 (fun _ => rfl) hr (fun b hb => hn _ h2 b hb), fun b hb => ⟨hb.1, hb.2, by simp⟩⟩
  · exact ⟨fun r hr => sl_fp ((hp.shared _ h3).1 r hr) (fun b hb => ⟨hfp b hb, (hp.shared _ h3).2.1 b hb⟩), fun b hb => ⟨hb.1, hb.2, by simp⟩⟩
/-- a closing that was made anew -/
structure WithZ where
  B : Option Addr
  d : Nat
  Bv : Option Addr
  dv : Nat
  rows : List ListV
  n1 : Nat
  n2 : Nat
theorem withV_snoc {vs : List ListV} {i k : Nat} {r : ListV} (h : vs[i]? = some r) (rows : List ListV) (A : Option Addr) (c : Nat) (hr : rowsV rows = withV ((rowsV vs).take i) k) : rowsV (rows ++ [⟨A, c, r.l ++ [r.l.getD k 0]⟩]) = withV ((rowsV vs).take (i + 1)) k := by
  rw [List.take_add_one, rowsV_get h]
  unfold rowsV withV at *
  rw [List.map_append, hr, List.map_append]; rfl
theorem clo_with {res : List Int} {rows : List (List Int)} {k : Nat} (h : CloOk res rows) (h5 : res.length ≤ 5) : CloOk (withR res k) (withV rows k) := by
  have hb : ∀ l : List Int, (∀ x ∈ l, 0 ≤ x ∧ x ≤ 100000) → ∀ x ∈ l ++ [l.getD k 0], 0 ≤ x ∧ x ≤ 100000 := by
    intro l hl x hx
    rcases List.mem_append.1 hx with e | e
    · exact hl x e
    · simp only [List.mem_singleton] at e
      rw [e, List.getD_eq_getElem?_getD]
      cases hq : l[k]? with
      | none => simp
      | some y => exact hl y (List.mem_of_getElem? hq)
  refine ⟨by rw [with_len]; omega, by rw [withV_len]; exact h.n, fun r hr => ?_, hb res h.res, fun r hr => ?_⟩
  · obtain ⟨l, hl, e⟩ := List.mem_map.1 hr
    rw [← e, with_len, List.length_append, h.len l hl]; rfl
  · obtain ⟨l, hl, e⟩ := List.mem_map.1 hr
    rw [← e]; exact hb l (h.val l hl)
theorem worth_bd {res : List Int} {rows : List (List Int)} {to : List Int} (h : CloOk res rows) (ht : to.length ≤ rows.length) : 0 ≤ worthP res rows to ∧ worthP res rows to ≤ 1200000 := by
  refine ⟨worth_nn h.nn.1 h.nn.2 to, ?_⟩
  have hvv : ∀ i j, vv rows i j ≤ 100000 := by
    intro i j
    unfold vv
    rw [List.getD_eq_getElem?_getD (l := rows)]
    cases hr : rows[i]? with
    | none => simp
    | some r =>
      simp only [Option.getD_some]
      rw [List.getD_eq_getElem?_getD]
      cases hx : r[j]? with
      | none => simp
      | some x => exact (h.val r (List.mem_of_getElem? hr) x (List.mem_of_getElem? hx)).2
  have g1 : ∀ (l : List Int) (k n : Int), (∀ x ∈ l, 0 ≤ x ∧ x ≤ 100000) → wFree to l k n ≤ n + 100000 * l.length := by
    intro l
    induction l with
    | nil => intro k n _; simp [wFree]
    | cons r l ih =>
      intro k n hl
      rw [wFree]
      have h1 := ih (k + 1) (if to.contains k then n else n + r) (fun x hx => hl x (List.mem_cons_of_mem _ hx))
      have h2 := hl r (List.mem_cons_self ..)
      have h3 : (if to.contains k then n else n + r) ≤ n + 100000 := by split <;> omega
      rw [List.length_cons]; omega
  have g2 : ∀ (t : List Int) (i : Nat) (n : Int), wGot rows t i n ≤ n + 100000 * t.length := by
    intro t
    induction t with
    | nil => intro i n; simp [wGot]
    | cons k t ih =>
      intro i n
      rw [wGot]
      have h1 := ih (i + 1) (if 0 ≤ k then n + vv rows i k.toNat else n)
      have h2 := hvv i k.toNat
      have h3 : (if 0 ≤ k then n + vv rows i k.toNat else n) ≤ n + 100000 := by split <;> omega
      rw [List.length_cons]; omega
  have e1 := g1 res 0 0 h.res
  have e2 := g2 to 0 (wFree to res 0 0)
  have := h.m; have := h.n
  unfold worthP
  omega
theorem best_bd {res : List Int} {rows : List (List Int)} (h : CloOk res rows) : 0 ≤ (bestF res rows).2 ∧ (bestF res rows).2 ≤ 1200000 := by
  obtain ⟨_, h2, h3, _⟩ := best_spec h.nn.1 h.nn.2
  rw [h3]; exact worth_bd h (by omega)
def CloA (res : List Int) (vs : List ListV) : List Int × List Int := if cloB res vs = true then ((bestF res (rowsV vs)).1, pricesL res (rowsV vs)) else ([], [])
theorem cloA_no {res : List Int} {vs : List ListV} (h : cloB res vs = false) : CloA res vs = ([], []) ∧ cloE res vs = 62 := by unfold CloA cloE; rw [h]; simp
theorem cloA_yes {res : List Int} {vs : List ListV} (h : cloB res vs = true) : CloA res vs = ((bestF res (rowsV vs)).1, pricesL res (rowsV vs)) ∧ cloE res vs = 0 := by unfold CloA cloE; rw [h]; simp
theorem prices_snoc (res : List Int) (rows : List (List Int)) (k : Nat) : (List.range (k + 1)).map (priceC res rows) = (List.range k).map (priceC res rows) ++ [priceC res rows k] := by rw [List.range_succ, List.map_append]; rfl
theorem award_facts {w0 w : World} {O S : List Fact} (hp : Hp (fun b => b < w0.heap.size) w0 O S w) {A B : Option Addr} {c d : Nat} {l m : List Int} (hl : l.length ≤ maxLen) (hm : m.length ≤ maxLen) (h1 : ow 3 1 enInt A c l ∈ O) (h2 : ow 3 1 enInt B d m ∈ O) :
    ∀ g ∈ [sl (fun i => w0.heap.size ≤ i ∧ i < w.heap.size) 1 enInt A l, sl (fun i => w0.heap.size ≤ i ∧ i < w.heap.size) 1 enInt B m], g.P w ∧ ∀ b, g.fp b → w0.heap.size ≤ b ∧ b < w.heap.size ∧ ∀ o ∈ ([] : List Fact), ¬ o.fp b := by
  intro g hg
  have hn : ∀ o ∈ O, ∀ b, o.fp b → w0.heap.size ≤ b ∧ b < w.heap.size := fun o ho b hb => ⟨Nat.le_of_not_lt ((hp.own o ho).2 b hb).2, ((hp.own o ho).2 b hb).1⟩
  simp only [List.mem_cons, List.mem_nil_iff, or_false] at hg
  rcases hg with rfl | rfl
  · exact ⟨ow_sl (hp.own _ h1).1 enInt_len hl (fun b hb => hn _ h1 b hb), fun b hb => ⟨hb.1, hb.2, by simp⟩⟩
  · exact ⟨ow_sl (hp.own _ h2).1 enInt_len hm (fun b hb => hn _ h2 b hb), fun b hb => ⟨hb.1, hb.2, by simp⟩⟩
theorem nil_facts {w0 w : World} {A B : Option Addr} : ∀ g ∈ [sl (fun i => w0.heap.size ≤ i ∧ i < w.heap.size) 1 enInt A [], sl (fun i => w0.heap.size ≤ i ∧ i < w.heap.size) 1 enInt B []], g.P w ∧ ∀ b, g.fp b → w0.heap.size ≤ b ∧ b < w.heap.size ∧ ∀ o ∈ ([] : List Fact), ¬ o.fp b := by
  intro g hg
  simp only [List.mem_cons, List.mem_nil_iff, or_false] at hg
  rcases hg with rfl | rfl
  · exact ⟨⟨Nat.zero_le _, fun h => absurd rfl h⟩, fun b hb => ⟨hb.1, hb.2, by simp⟩⟩
  · exact ⟨⟨Nat.zero_le _, fun h => absurd rfl h⟩, fun b hb => ⟨hb.1, hb.2, by simp⟩⟩
theorem clo_ref (res : List Int) (vs : List ListV) : ((((decide ((1 : Int) ≤ res.length) && decide ((res.length : Int) ≤ 5)) && (decide ((1 : Int) ≤ vs.length) && decide ((vs.length : Int) ≤ 6))) && res.all okv) && vs.all (rowOk res.length)) = cloB res vs := by
  unfold cloB btw
  generalize (decide ((1 : Int) ≤ res.length) && decide ((res.length : Int) ≤ 5)) = a
  generalize (decide ((1 : Int) ≤ vs.length) && decide ((vs.length : Int) ≤ 6)) = b
  generalize res.all okv = c
  generalize vs.all (rowOk res.length) = d
  cases a <;> cases b <;> cases c <;> cases d <;> rfl
theorem seek_get {to : List Int} {j : Nat} (h : 0 ≤ seek to (j : Int) 0) : ∃ i, to[i]? = some (j : Int) ∧ seek to (j : Int) 0 = (i : Nat) := by
  rw [seek_N, show seekN to (j : Int) 0 = seekN to (j : Int) ((0 : Nat) : Int) from rfl] at *
  rcases seekN_spec to j 0 with ⟨a, _⟩ | ⟨k, a, b⟩
  · omega
  · exact ⟨k, a, by rw [b]; omega⟩
theorem bit_T (n k : Nat) : (((n / 2 ^ k : Nat) : Int) % 2 == 1) = n.testBit k := by
  rw [Nat.testBit_eq_decide_div_mod_eq]
  generalize n / 2 ^ k = m
  by_cases h : m % 2 = 1
  · rw [decide_eq_true h]; exact beq_iff_eq.2 (by omega)
  · rw [decide_eq_false h]; exact beq_eq_false_iff_ne.2 (by omega)
/-- the sum of the lots that are free, step by step -/
def frG (f : Nat) : List Int → Nat → Int → Int
  | [], _, n => n
  | r :: l, j, n => frG f l (j + 1) (if f.testBit j then n + r else n)
theorem frG_drop (f : Nat) (res : List Int) (j : Nat) (r n : Int) (h : res[j]? = some r) : frG f (res.drop j) j n = frG f (res.drop (j + 1)) (j + 1) (if f.testBit j then n + r else n) := by
  obtain ⟨h1, h2⟩ := List.getElem?_eq_some_iff.1 h
  rw [List.drop_eq_getElem_cons h1, h2, frG]
theorem frG_sum (f : Nat) : ∀ (l : List Int) (j : Nat) (n : Int), frG f l j n = n + sumN l.length (fun i => if f.testBit (j + i) then l.getD i 0 else 0)
  | [], j, n => by simp [frG, sumN]
  | r :: l, j, n => by
    rw [frG, frG_sum f l (j + 1), List.length_cons, sumN_left]
    rw [sumN_congr (n := l.length) (f := fun i => if f.testBit (j + (i + 1)) then (r :: l).getD (i + 1) 0 else 0) (g := fun i => if f.testBit (j + 1 + i) then l.getD i 0 else 0) (fun i _ => by rw [show j + (i + 1) = j + 1 + i by omega]; rfl)]
    simp only [Nat.add_zero, List.getD_cons_zero]
    split <;> omega
theorem frG_free (f : Nat) (res : List Int) : frG f res 0 0 = freeR res f := by
  rw [frG_sum, Int.zero_add]
  unfold freeR
  exact sumN_congr fun i _ => by rw [Nat.zero_add]; rfl
theorem mostJ_s (row : List Int) (f : Nat) (g : Nat → Int) (d j : Nat) (b : Int) : mostJ row f g (d + 1) j b = mostJ row f g d (j + 1) (if f.testBit j then max b (row.getD j 0 + g (f - 2 ^ j)) else b) := rfl
theorem most_bd {res : List Int} : ∀ {rows : List (List Int)}, CloOk res rows → ∀ f : Nat, 0 ≤ mostR res rows f ∧ mostR res rows f ≤ 600000 + 100000 * rows.length := by
  intro rows h f
  obtain ⟨⟨σ, s1, s2, s3⟩, b⟩ := mostR_spec res rows f
  have h0 := b (fun _ => none) ⟨fun _ _ _ h => (by cases h), fun _ _ _ _ _ h => (by cases h)⟩ (fun _ _ _ h => (by cases h))
  have hz : wt rows.length (wv res rows) (fun _ => none) = 0 := (sumN_congr (f := fun i => gt (wv res rows) i none) (g := fun _ => 0) (fun _ _ => rfl)).trans (sumN_zero _)
  have hf0 : 0 ≤ freeR res f := by
    have := sumN_le (n := res.length) (f := fun _ => 0) (g := fun j => if f.testBit j then rv res j else 0) (fun j hj => by split; exact getD_nn h.nn.1 j; exact Int.le_refl _)
    rw [sumN_zero] at this; exact this
  have hf1 : freeR res f ≤ 100000 * res.length := by
    have key : ∀ n, sumN n (fun j => if f.testBit j then rv res j else 0) ≤ 100000 * n := by
      intro n
      induction n with
      | zero => simp [sumN]
      | succ n ih =>
        rw [sumN]
        have : (if f.testBit n then rv res n else 0) ≤ 100000 := by
          split
          · unfold rv
            rw [List.getD_eq_getElem?_getD]
            cases hx : res[n]? with
            | none => simp
            | some x => exact (h.res x (List.mem_of_getElem? hx)).2
          · omega
        omega
    exact key _
  have hw1 : wt rows.length (wv res rows) σ ≤ 100000 * rows.length := by
    have key : ∀ n, sumN n (fun i => gt (wv res rows) i (σ i)) ≤ 100000 * n := by
      intro n
      induction n with
      | zero => simp [sumN]
      | succ n ih =>
        rw [sumN]
        have : gt (wv res rows) n (σ n) ≤ 100000 := by
          cases σ n with
          | none => show (0 : Int) ≤ 100000; omega
          | some j =>
            show vv rows n j - rv res j ≤ 100000
            have h1 : 0 ≤ rv res j := getD_nn h.nn.1 j
            have h2 : vv rows n j ≤ 100000 := by
              unfold vv
              rw [List.getD_eq_getElem?_getD (l := rows)]
              cases hr : rows[n]? with
              | none => simp
              | some r =>
                simp only [Option.getD_some]
                rw [List.getD_eq_getElem?_getD]
                cases hx : r[j]? with
                | none => simp
                | some x => exact (h.val r (List.mem_of_getElem? hr) x (List.mem_of_getElem? hx)).2
            omega
        omega
    exact key _
  have := h.m
  omega
theorem CloOk.drop {res : List Int} {rows : List (List Int)} (h : CloOk res rows) (k : Nat) : CloOk res (rows.drop k) :=
  ⟨h.m, by rw [List.length_drop]; have := h.n; omega, fun r hr => h.len r (List.mem_of_mem_drop hr), h.res, fun r hr => h.val r (List.mem_of_mem_drop hr)⟩
def WorV (res : List Int) (vs : List ListV) (to : List Int) : Int := if cloB res vs = true ∧ fitsB res.length vs.length to = true then worthP res (rowsV vs) to else 0
def WorE (res : List Int) (vs : List ListV) (to : List Int) : Int := if cloB res vs = true then (if fitsB res.length vs.length to = true then 0 else 63) else 62
theorem wor_no {res : List Int} {vs : List ListV} {to : List Int} (h : cloB res vs = false) : WorV res vs to = 0 ∧ WorE res vs to = 62 := by unfold WorV WorE; rw [h]; simp
theorem wor_no2 {res : List Int} {vs : List ListV} {to : List Int} (h : cloB res vs = true) (h2 : fitsB res.length vs.length to = false) : WorV res vs to = 0 ∧ WorE res vs to = 63 := by unfold WorV WorE; rw [h, h2]; simp
theorem wor_yes {res : List Int} {vs : List ListV} {to : List Int} (h : cloB res vs = true) (h2 : fitsB res.length vs.length to = true) : WorV res vs to = worthP res (rowsV vs) to ∧ WorE res vs to = 0 := by unfold WorV WorE; rw [h, h2]; simp
/-- what the search for the best list holds of its caller's -/
def bestO (bm bt : Nat) (A : Option Addr) (c : Nat) (so : List Int) (At : Option Addr) (ct : Nat) (s : List Int × Int) : List Fact :=
  [ownB bm (cellsB 3 [.int .i64 s.2]), ownB bt (cellsB 43 [.slice At s.1.length ct]), ow 3 1 enInt At ct s.1, ow 3 1 enInt A c so]
end Go.Proofs.Ytehmifpofpifkaa
namespace Go.Proofs.Ytehmifpofpifkaa
open Go.Sx Go.RowKit Am
set_option maxRecDepth 20000
theorem k_Seek (l : List Int) (n : Int) (A : Option Addr) (c : Nat) (w : World) (hl : Rd w 1 enInt A l) : Calls Try.prog 102 #[.slice A l.length c, .int .i64 n] w (fun e w' => e = .returned (.int .i64 (seek l n 0)) ∧ Grow w w') := by
  have hlen := hl.len
  refine enter_pure (args := [.slice A l.length c, .int .i64 n]) [sl (fun b => b < w.heap.size) 1 enInt A l] Try.func102 rfl (by rw [Try.ntmps102]; simp) (fun g hg => by simp at hg; subst hg; exact ⟨hl, fun _ h => h⟩) ?_
  refine cj_seq ?_
  refine cj_regionG (gj_step (y_assign rfl) rfl rfl rfl (gj_nil ?_))
  refine ej_th (cj_seq (cj_seq ?_))
  refine cj_regionG (gj_step (y_assign rfl) rfl rfl rfl (gj_nil ?_))
  refine ej_th (cj_block ?_)
  refine cj_lpic (X := Nat) [(0, _), (1, _)] (fun k => k ≤ l.length ∧ seek (l.drop k) n k = seek l n 0) (fun k => [(5, .int .i64 k)]) (fun k => l.length - k) 0 (⟨Nat.zero_le _, rfl⟩) ⟨rfl, rfl, rfl, trivial⟩ ?_
  rintro k ⟨hk, hsk⟩
  dsimp only [List.cons_append, List.nil_append]
  refine cj_seq (cj_seq ?_)
  refine cj_regionG (gj_step (y_move rfl) rfl rfl rfl (gj_step (y_move rfl) rfl rfl rfl (gj_step (y_lenA Try.underlying43 rfl) rfl rfl rfl (gj_step (y_lss rfl rfl) rfl rfl rfl (gj_nil ?_)))))
  refine ej_th ?_
  refine cj_cond rfl (fun h9 => ?_) (fun h9 => ?_)
  · have h9b := h9
    try simp only [sxb] at h9
    obtain ⟨x, hx⟩ : ∃ x, l[k]? = some x := ⟨_, List.getElem?_eq_getElem (by omega)⟩
    rw [seek_drop l n k x hx] at hsk
    refine cj_skip (ej_th (cj_seq (cj_block (cj_seq ?_))))
    refine cj_regionG (gj_step (y_move rfl) rfl rfl rfl (gj_step (y_move rfl) rfl rfl rfl (gj_step (y_ixR (reads_sl) Try.underlying43 Try.sizeOf3 rfl rfl (⟨by omega, by omega⟩)) rfl rfl rfl (gj_step (y_ld0 (reads_sl) Try.isAgg3 rfl (hx) rfl) rfl rfl rfl (gj_step (y_move rfl) rfl rfl rfl (gj_step (y_eql rfl rfl) rfl rfl rfl (gj_nil ?_)))))))
    refine ej_th ?_
    refine cj_cond rfl (fun h17 => ?_) (fun h17 => ?_)
    · have h17b := h17
      try simp only [sxb] at h17
      refine cj_seq ?_
      refine cj_regionG (gj_step (y_move rfl) rfl rfl rfl (gj_step (y_assign rfl) rfl rfl rfl (gj_nil ?_)))
      refine ej_th (cj_ret (ej_blk_ret (ej_then_ret (ej_then_ret (ej_blk_ret (ej_then_ret ?_))))))
      refine ej_ret1 rfl Try.results102 rfl (fun w' hp => ⟨?_, hp.below⟩)
      rw [← hsk, if_pos h17]
    · have h17b := h17
      try simp only [sxb] at h17
      refine cj_skip (ej_blk (ej_th ?_))
      refine cj_regionG (gj_step (y_move rfl) rfl rfl rfl (gj_step (y_add rfl rfl (by omega)) rfl rfl rfl (gj_step (y_assign rfl) rfl rfl rfl (gj_nil ?_))))
      exact ej_nx (k + 1) (by omega) ⟨by omega, by rw [← hsk, if_neg h17]⟩ ⟨rfl, rfl, rfl, trivial⟩
  · have h9b := h9
    try simp only [sxb] at h9
    refine cj_exit (ej_then_exit (ej_then_exit (ej_blk_hit (ej_th (cj_seq ?_)))))
    refine cj_regionG (gj_step (y_assign rfl) rfl rfl rfl (gj_nil ?_))
    refine ej_th (cj_ret ?_)
    refine ej_ret1 rfl Try.results102 rfl (fun w' hp => ⟨?_, hp.below⟩)
    rw [← hsk, List.drop_of_length_le (by omega)]; rfl

theorem k_IndexI (l : List Int) (A : Option Addr) (c : Nat) (n : Int) (w : World) (hl : Rd w 1 enInt A l) : Calls Try.prog 104 #[.slice A l.length c, .int .i64 n] w (fun e w' => e = .returned (.int .i64 (seek l n 0)) ∧ Grow w w') := by
  have hlen := hl.len
  refine enter_pure (args := [.slice A l.length c, .int .i64 n]) [sl (fun b => b < w.heap.size) 1 enInt A l] Try.func104 rfl (by rw [Try.ntmps104]; simp) (fun g hg => by simp at hg; subst hg; exact ⟨hl, fun _ h => h⟩) ?_
  refine cj_seq ?_
  refine cj_regionG (gj_step (y_assign rfl) rfl rfl rfl (gj_nil ?_))
  refine ej_th (cj_seq (cj_seq ?_))
  refine cj_regionG (gj_step (y_move rfl) rfl rfl rfl (gj_step (y_lenA Try.underlying43 rfl) rfl rfl rfl (gj_step (y_move rfl) rfl rfl rfl (gj_nil ?_))))
  refine ej_th (cj_block ?_)
  refine cj_lpic (X := Nat) [(0, _), (1, _), (7, _)] (fun k => k ≤ l.length ∧ seek (l.drop k) n k = seek l n 0) (fun k => [(8, .int .i64 k)]) (fun k => l.length - k) 0 (⟨Nat.zero_le _, rfl⟩) ⟨rfl, rfl, rfl, rfl, trivial⟩ ?_
  rintro k ⟨hk, hsk⟩
  dsimp only [List.cons_append, List.nil_append]
  refine cj_seq ?_
  refine cj_regionG (gj_step (y_lss rfl rfl) rfl rfl rfl (gj_nil ?_))
  refine ej_th (cj_seq ?_)
  refine cj_cond rfl (fun h9 => ?_) (fun h9 => ?_)
  · have h9b := h9
    try simp only [sxb] at h9
    obtain ⟨x, hx⟩ : ∃ x, l[k]? = some x := ⟨_, List.getElem?_eq_getElem (by omega)⟩
    rw [seek_drop l n k x hx] at hsk
    refine cj_skip (ej_th (cj_seq (cj_block (cj_seq ?_))))
    refine cj_regionG (gj_step (y_move rfl) rfl rfl rfl (gj_step (y_assign rfl) rfl rfl rfl (gj_nil ?_)))
    refine ej_th (cj_seq ?_)
    refine cj_regionG (gj_step (y_move rfl) rfl rfl rfl (gj_step (y_move rfl) rfl rfl rfl (gj_step (y_move rfl) rfl rfl rfl (gj_step (y_ixR (reads_sl) Try.underlying43 Try.sizeOf3 rfl rfl (⟨by omega, by omega⟩)) rfl rfl rfl (gj_step (y_ld0 (reads_sl) Try.isAgg3 rfl (hx) rfl) rfl rfl rfl (gj_step (y_eql rfl rfl) rfl rfl rfl (gj_nil ?_)))))))
    refine ej_th ?_
    refine cj_cond rfl (fun h16 => ?_) (fun h16 => ?_)
    · have h16b := h16
      try simp only [sxb] at h16
      refine cj_seq ?_
      refine cj_regionG (gj_step (y_move rfl) rfl rfl rfl (gj_step (y_assign rfl) rfl rfl rfl (gj_nil ?_)))
      refine ej_th (cj_ret (ej_blk_ret (ej_then_ret (ej_then_ret (ej_blk_ret (ej_then_ret ?_))))))
      refine ej_ret1 rfl Try.results104 rfl (fun w' hp => ⟨?_, hp.below⟩)
      rw [← hsk, if_pos h16.symm]
    · have h16b := h16
      try simp only [sxb] at h16
      refine cj_skip (ej_blk (ej_th ?_))
      refine cj_regionG (gj_step (y_add rfl rfl (by omega)) rfl rfl rfl (gj_step (y_move rfl) rfl rfl rfl (gj_nil ?_)))
      exact ej_nx (k + 1) (by omega) ⟨by omega, by rw [← hsk, if_neg (fun e => h16 e.symm)]⟩ ⟨rfl, rfl, rfl, rfl, trivial⟩
  · have h9b := h9
    try simp only [sxb] at h9
    refine cj_exit (ej_then_exit (ej_then_exit (ej_blk_hit (ej_th (cj_seq ?_)))))
    refine cj_regionG (gj_step (y_assign rfl) rfl rfl rfl (gj_nil ?_))
    refine ej_th (cj_ret ?_)
    refine ej_ret1 rfl Try.results104 rfl (fun w' hp => ⟨?_, hp.below⟩)
    rw [← hsk, List.drop_of_length_le (by omega)]; rfl

theorem k_ContI (l : List Int) (A : Option Addr) (c : Nat) (n : Int) (w : World) (hl : Rd w 1 enInt A l) : Calls Try.prog 89 #[.slice A l.length c, .int .i64 n] w (fun e w' => e = .returned (.bool (l.contains n)) ∧ Grow w w') := by
  refine enter_pure (args := [.slice A l.length c, .int .i64 n]) [sl (fun b => b < w.heap.size) 1 enInt A l] Try.func89 rfl (by rw [Try.ntmps89]; simp) (fun g hg => by simp at hg; subst hg; exact ⟨hl, fun _ h => h⟩) ?_
  refine cj_seq ?_
  refine cj_regionG (gj_step (y_assign rfl) rfl rfl rfl (gj_nil ?_))
  refine ej_th (cj_seq ?_)
  refine cj_regionG ?_
  refine gj_step (y_move rfl) rfl rfl rfl (gj_step (y_move rfl) rfl rfl rfl (?_))
  refine gj_step (y_call Try.call104 rfl (fun w hp => k_IndexI l A c n w hp.rd)) rfl rfl rfl ?_
  refine gj_step (y_geq rfl rfl) rfl rfl rfl (gj_step (y_assign rfl) rfl rfl rfl (?_))
  refine gj_nil ?_
  refine ej_th (cj_ret ?_)
  refine ej_ret1 rfl Try.results89 rfl (fun w' hp => ⟨?_, hp.below⟩)
  rw [seek_has l n 0 (Int.le_refl _)]

theorem k_clW (n : Int) (w : World)  : Calls Try.prog 84 #[.int .i64 n] w (fun e w' => e = .returned (.bool (!(okv n))) ∧ Grow w w') := by
  refine enter_pure (args := [.int .i64 n]) [] Try.func84 rfl (by rw [Try.ntmps84]; simp) (by simp) ?_
  refine cj_seq ?_
  refine cj_regionG (gj_step (y_assign rfl) rfl rfl rfl (gj_nil ?_))
  refine ej_th (cj_seq ?_)
  refine cj_regionG ?_
  refine gj_step (y_move rfl) rfl rfl rfl (?_)
  refine gj_step (y_call Try.call49 rfl (fun w hp => k_within _ _ _ w)) rfl rfl rfl ?_
  refine gj_step (y_not rfl) rfl rfl rfl (gj_step (y_assign rfl) rfl rfl rfl (?_))
  refine gj_nil ?_
  refine ej_th (cj_ret ?_)
  exact ej_ret1 rfl Try.results84 rfl (fun w' hp => ⟨rfl, hp.below⟩)

theorem k_IndexW (l : List Int) (A : Option Addr) (c : Nat) (w : World) (hl : Rd w 1 enInt A l) : Calls Try.prog 96 #[.slice A l.length c, .func (.func 84) #[] #[]] w (fun e w' => e = .returned (.int .i64 (firstNo okv l 0)) ∧ Grow w w') := by
  have hlen := hl.len
  refine enter_pure (args := [.slice A l.length c, .func (.func 84) #[] #[]]) [sl (fun b => b < w.heap.size) 1 enInt A l] Try.func96 rfl (by rw [Try.ntmps96]; simp) (fun g hg => by simp at hg; subst hg; exact ⟨hl, fun _ h => h⟩) ?_
  refine cj_seq ?_
  refine cj_regionG (gj_step (y_assign rfl) rfl rfl rfl (gj_nil ?_))
  refine ej_th (cj_seq (cj_seq ?_))
  refine cj_regionG (gj_step (y_move rfl) rfl rfl rfl (gj_step (y_lenA Try.underlying43 rfl) rfl rfl rfl (gj_step (y_move rfl) rfl rfl rfl (gj_nil ?_))))
  refine ej_th (cj_block ?_)
  refine cj_lpic (X := Nat) [(0, _), (1, _), (7, _)] (fun k => k ≤ l.length ∧ firstNo okv (l.drop k) k = firstNo okv l 0) (fun k => [(8, .int .i64 k)]) (fun k => l.length - k) 0 (⟨Nat.zero_le _, rfl⟩) ⟨rfl, rfl, rfl, rfl, trivial⟩ ?_
  rintro k ⟨hk, hsk⟩
  dsimp only [List.cons_append, List.nil_append]
  refine cj_seq ?_
  refine cj_regionG (gj_step (y_lss rfl rfl) rfl rfl rfl (gj_nil ?_))
  refine ej_th (cj_seq ?_)
  refine cj_cond rfl (fun h9 => ?_) (fun h9 => ?_)
  · have h9b := h9
    try simp only [sxb] at h9
    obtain ⟨x, hx⟩ : ∃ x, l[k]? = some x := ⟨_, List.getElem?_eq_getElem (by omega)⟩
    rw [firstNo_drop okv l k x hx] at hsk
    refine cj_skip (ej_th (cj_seq (cj_block (cj_seq ?_))))
    refine cj_regionG (gj_step (y_move rfl) rfl rfl rfl (gj_step (y_assign rfl) rfl rfl rfl (gj_nil ?_)))
    refine ej_th (cj_seq ?_)
    refine cj_regionG ?_
    refine gj_step (y_move rfl) rfl rfl rfl (gj_step (y_move rfl) rfl rfl rfl (gj_step (y_move rfl) rfl rfl rfl (gj_step (y_ixR (reads_sl) Try.underlying43 Try.sizeOf3 rfl rfl (⟨by omega, by omega⟩)) rfl rfl rfl (gj_step (y_ld0 (reads_sl) Try.isAgg3 rfl (hx) rfl) rfl rfl rfl (?_)))))
    refine gj_step (y_callV Try.call84 rfl rfl (fun w hp => k_clW x w)) rfl rfl rfl ?_
    refine gj_nil ?_
    refine ej_th ?_
    refine cj_cond rfl (fun h16 => ?_) (fun h16 => ?_)
    · have h16b := h16
      try simp only [sxb] at h16
      refine cj_seq ?_
      refine cj_regionG (gj_step (y_move rfl) rfl rfl rfl (gj_step (y_assign rfl) rfl rfl rfl (gj_nil ?_)))
      refine ej_th (cj_ret (ej_blk_ret (ej_then_ret (ej_then_ret (ej_blk_ret (ej_then_ret ?_))))))
      refine ej_ret1 rfl Try.results96 rfl (fun w' hp => ⟨?_, hp.below⟩)
      rw [← hsk, if_neg (by rw [not_t h16b]; simp)]
    · have h16b := h16
      try simp only [sxb] at h16
      refine cj_skip (ej_blk (ej_th ?_))
      refine cj_regionG (gj_step (y_add rfl rfl (by omega)) rfl rfl rfl (gj_step (y_move rfl) rfl rfl rfl (gj_nil ?_)))
      exact ej_nx (k + 1) (by omega) ⟨by omega, by rw [← hsk, if_pos (not_f h16b)]⟩ ⟨rfl, rfl, rfl, rfl, trivial⟩
  · have h9b := h9
    try simp only [sxb] at h9
    refine cj_exit (ej_then_exit (ej_then_exit (ej_blk_hit (ej_th (cj_seq ?_)))))
    refine cj_regionG (gj_step (y_assign rfl) rfl rfl rfl (gj_nil ?_))
    refine ej_th (cj_ret ?_)
    refine ej_ret1 rfl Try.results96 rfl (fun w' hp => ⟨?_, hp.below⟩)
    rw [← hsk, List.drop_of_length_le (by omega)]; rfl

theorem k_ContW (l : List Int) (A : Option Addr) (c : Nat) (w : World) (hl : Rd w 1 enInt A l) : Calls Try.prog 65 #[.slice A l.length c, .func (.func 84) #[] #[]] w (fun e w' => e = .returned (.bool (!(l.all okv))) ∧ Grow w w') := by
  refine enter_pure (args := [.slice A l.length c, .func (.func 84) #[] #[]]) [sl (fun b => b < w.heap.size) 1 enInt A l] Try.func65 rfl (by rw [Try.ntmps65]; simp) (fun g hg => by simp at hg; subst hg; exact ⟨hl, fun _ h => h⟩) ?_
  refine cj_seq ?_
  refine cj_regionG (gj_step (y_assign rfl) rfl rfl rfl (gj_nil ?_))
  refine ej_th (cj_seq ?_)
  refine cj_regionG ?_
  refine gj_step (y_move rfl) rfl rfl rfl (gj_step (y_move rfl) rfl rfl rfl (?_))
  refine gj_step (y_call Try.call96 rfl (fun w hp => k_IndexW l A c w hp.rd)) rfl rfl rfl ?_
  refine gj_step (y_geq rfl rfl) rfl rfl rfl (gj_step (y_assign rfl) rfl rfl rfl (?_))
  refine gj_nil ?_
  refine ej_th (cj_ret ?_)
  refine ej_ret1 rfl Try.results65 rfl (fun w' hp => ⟨?_, hp.below⟩)
  rw [firstNo_all okv l]

theorem k_CheckC (res : List Int) (Ar : Option Addr) (cr : Nat) (vs : List ListV) (Av : Option Addr) (cv : Nat) (w : World) (hres : Rd w 1 enInt Ar res) (hvs : Rd w 1 encLs Av vs) (hgv : ∀ r ∈ vs, GoodL w r) : Calls Try.prog 40 #[.agg #[.slice Ar res.length cr, .slice Av vs.length cv]] w (fun e w' => e = .returned (.int .i64 (cloE res vs)) ∧ Grow w w') := by
  have hlr := hres.len
  have hlv := hvs.len
  refine enter_pure (args := [.agg #[.slice Ar res.length cr, .slice Av vs.length cv]]) [sl (fun b => b < w.heap.size) 1 enInt Ar res, sl (fun b => b < w.heap.size) 1 encLs Av vs] Try.func40 rfl (by rw [Try.ntmps40]; simp) (fun g hg => by simp at hg; rcases hg with rfl | rfl; exact ⟨hres, fun _ h => h⟩; exact ⟨hvs, fun _ h => h⟩) ?_
  refine cj_seq (cj_region ?_)
  refine oj_box rfl rfl rfl (fun b1 => ?_)
  refine oj_step (y_assign rfl) rfl rfl rfl ?_
  refine oj_nil ?_
  refine ej_th (cj_seq ?_)
  refine cj_regionG (gj_step (y_assign rfl) rfl rfl rfl (gj_nil ?_))
  refine ej_th (cj_seq (cj_seq ?_))
  refine cj_regionG ?_
  refine gj_step (y_fa0 fa60_0 rfl) rfl rfl rfl (gj_step (y_load1 Try.isAgg43 rfl rfl) rfl rfl rfl (gj_step (y_lenA Try.underlying43 rfl) rfl rfl rfl (?_)))
  refine gj_step (y_call Try.call49 rfl (fun w hp => k_within _ _ _ w)) rfl rfl rfl ?_
  refine gj_step (y_not rfl) rfl rfl rfl (gj_step (y_move rfl) rfl rfl rfl (?_))
  refine gj_g 4 11 15 rfl rfl rfl rfl (fun hg11 => gj_yes rfl rfl rfl (y_fa0 fa60_0 rfl) rfl rfl (gj_yes rfl rfl rfl (y_load1 Try.isAgg43 rfl rfl) rfl rfl (gj_yes rfl rfl rfl (y_move rfl) rfl rfl (gj_yes rfl rfl rfl (y_call Try.call65 rfl (fun w hp => k_ContW res Ar cr w hp.rd)) rfl rfl (gj_nil rfl))))) ?_
  refine gj_step (y_or rfl rfl rfl) rfl rfl rfl (gj_step (y_move rfl) rfl rfl rfl (?_))
  refine gj_g 5 17 22 rfl rfl rfl rfl (fun hg17 => gj_yes rfl rfl rfl (y_fa fa60_1 rfl) rfl rfl (gj_yes rfl rfl rfl (y_load1 Try.isAgg58 rfl rfl) rfl rfl (gj_yes rfl rfl rfl (y_lenA Try.underlying58 rfl) rfl rfl (gj_yes rfl rfl rfl (y_call Try.call49 rfl (fun w hp => k_within _ _ _ w)) rfl rfl (gj_yes rfl rfl rfl (y_not rfl) rfl rfl (gj_nil rfl)))))) ?_
  refine gj_step (y_or rfl rfl rfl) rfl rfl rfl (?_)
  refine gj_nil ?_
  refine ej_th ?_
  refine cj_cond rfl (fun h23 => ?_) (fun h23 => ?_)
  · have h23b := h23
    try simp only [sxb] at h23
    rw [cloH_V] at h23b
    refine cj_seq ?_
    refine cj_regionG (gj_step (y_assign rfl) rfl rfl rfl (gj_nil ?_))
    refine ej_th (cj_ret (ej_then_ret ?_))
    refine ej_ret1 rfl Try.results40 rfl (fun w' hp => ⟨?_, hp.below⟩)
    rw [cloE, cloB_H, not_t h23b]; rfl
  · have h23b := h23
    try simp only [sxb] at h23
    rw [cloH_V] at h23b
    refine cj_skip (ej_th (cj_seq (cj_seq ?_)))
    refine cj_regionG (gj_step (y_fa fa60_1 rfl) rfl rfl rfl (gj_step (y_load1 Try.isAgg58 rfl rfl) rfl rfl rfl (gj_step (y_lenA Try.underlying58 rfl) rfl rfl rfl (gj_step (y_move rfl) rfl rfl rfl (gj_nil ?_)))))
    refine ej_th (cj_block ?_)
    refine cj_lpic (X := Nat) [(1, _), (3, _), (25, _), (26, _)] (fun k => k ≤ vs.length ∧ (vs.drop k).all (rowOk res.length) = vs.all (rowOk res.length)) (fun k => [(27, .int .i64 k)]) (fun k => vs.length - k) 0 (⟨Nat.zero_le _, rfl⟩) ⟨rfl, rfl, rfl, rfl, rfl, trivial⟩ ?_
    rintro k ⟨hk, hsk⟩
    dsimp only [List.cons_append, List.nil_append]
    refine cj_seq ?_
    refine cj_regionG (gj_step (y_lss rfl rfl) rfl rfl rfl (gj_nil ?_))
    refine ej_th (cj_seq ?_)
    refine cj_cond rfl (fun h28 => ?_) (fun h28 => ?_)
    · have h28b := h28
      try simp only [sxb] at h28
      obtain ⟨r, hr⟩ : ∃ r, vs[k]? = some r := ⟨_, List.getElem?_eq_getElem (by omega)⟩
      have hgr := hgv r (List.mem_of_getElem? hr)
      have hrl := hgr.len
      refine cj_rd hgr (fun _ h => h) ?_
      rw [all_drop (rowOk res.length) vs k r hr] at hsk
      refine cj_skip (ej_th (cj_seq (cj_block (cj_seq ?_))))
      refine cj_regionG (gj_step (y_ixR (reads_sl) Try.underlying58 Try.sizeOf43 rfl rfl (⟨by omega, by omega⟩)) rfl rfl rfl (gj_step (y_ld0 (reads_sl) Try.isAgg43 rfl (hr) rfl) rfl rfl rfl (gj_step (y_assign rfl) rfl rfl rfl (gj_nil ?_))))
      refine ej_th (cj_seq ?_)
      refine cj_regionG ?_
      refine gj_step (y_move rfl) rfl rfl rfl (gj_step (y_lenA Try.underlying43 rfl) rfl rfl rfl (gj_step (y_fa0 fa60_0 rfl) rfl rfl rfl (gj_step (y_load1 Try.isAgg43 rfl rfl) rfl rfl rfl (gj_step (y_lenA Try.underlying43 rfl) rfl rfl rfl (gj_step (y_neq rfl rfl) rfl rfl rfl (gj_step (y_move rfl) rfl rfl rfl (?_)))))))
      refine gj_g 3 37 40 rfl rfl rfl rfl (fun hg37 => gj_yes rfl rfl rfl (y_move rfl) rfl rfl (gj_yes rfl rfl rfl (y_move rfl) rfl rfl (gj_yes rfl rfl rfl (y_call Try.call65 rfl (fun w hp => k_ContW r.l r.A r.c w hp.rd)) rfl rfl (gj_nil rfl)))) ?_
      refine gj_step (y_or rfl rfl rfl) rfl rfl rfl (?_)
      refine gj_nil ?_
      refine ej_th ?_
      refine cj_cond rfl (fun h41 => ?_) (fun h41 => ?_)
      · have h41b := h41
        try simp only [sxb] at h41
        rw [row_V] at h41b
        refine cj_seq ?_
        refine cj_regionG (gj_step (y_assign rfl) rfl rfl rfl (gj_nil ?_))
        refine ej_th (cj_ret (ej_blk_ret (ej_then_ret (ej_then_ret (ej_blk_ret (ej_then_ret ?_))))))
        refine ej_ret1 rfl Try.results40 rfl (fun w' hp => ⟨?_, hp.below⟩)
        rw [cloE, cloB_H, ← hsk, not_t h41b]; simp
      · have h41b := h41
        try simp only [sxb] at h41
        rw [row_V] at h41b
        refine cj_skip (ej_blk (ej_th ?_))
        refine cj_regionG (gj_step (y_add rfl rfl (by omega)) rfl rfl rfl (gj_step (y_move rfl) rfl rfl rfl (gj_nil ?_)))
        exact ej_nx (k + 1) (by omega) ⟨by omega, by rw [← hsk, not_f h41b, Bool.true_and]⟩ ⟨rfl, rfl, rfl, rfl, rfl, trivial⟩
    · have h28b := h28
      try simp only [sxb] at h28
      refine cj_exit (ej_then_exit (ej_then_exit (ej_blk_hit (ej_th (cj_seq ?_)))))
      refine cj_regionG (gj_step (y_assign rfl) rfl rfl rfl (gj_nil ?_))
      refine ej_th (cj_ret ?_)
      refine ej_ret1 rfl Try.results40 rfl (fun w' hp => ⟨?_, hp.below⟩)
      rw [cloE, cloB_H, not_f h23b, ← hsk, List.drop_of_length_le (by omega)]; rfl

theorem k_fits (res : List Int) (Ar : Option Addr) (cr : Nat) (vs : List ListV) (Av : Option Addr) (cv : Nat) (to : List Int) (At : Option Addr) (ct : Nat) (w : World) (hres : Rd w 1 enInt Ar res) (hvs : Rd w 1 encLs Av vs) (hto : Rd w 1 enInt At to) : Calls Try.prog 80 #[.agg #[.slice Ar res.length cr, .slice Av vs.length cv], .slice At to.length ct] w (fun e w' => e = .returned (.bool (fitsB res.length vs.length to)) ∧ Grow w w') := by
  have hlr := hres.len
  have hlv := hvs.len
  have hlt := hto.len
  refine enter_pure (args := [.agg #[.slice Ar res.length cr, .slice Av vs.length cv], .slice At to.length ct]) [sl (fun b => b < w.heap.size) 1 enInt Ar res, sl (fun b => b < w.heap.size) 1 encLs Av vs, sl (fun b => b < w.heap.size) 1 enInt At to] Try.func80 rfl (by rw [Try.ntmps80]; simp) (fun g hg => by simp at hg; rcases hg with rfl | rfl | rfl; exact ⟨hres, fun _ h => h⟩; exact ⟨hvs, fun _ h => h⟩; exact ⟨hto, fun _ h => h⟩) ?_
  refine cj_seq (cj_region ?_)
  refine oj_box rfl rfl rfl (fun b2 => ?_)
  refine oj_step (y_assign rfl) rfl rfl rfl ?_
  refine oj_nil ?_
  refine ej_th (cj_seq (cj_region ?_))
  refine oj_makeMap ekI (fun b : Bool => .bool b) rfl (fun m8 => ?_)
  refine oj_step (y_assign rfl) rfl rfl rfl ?_
  refine oj_nil ?_
  refine ej_th (cj_seq (cj_seq ?_))
  refine cj_regionG (gj_step (y_move rfl) rfl rfl rfl (gj_step (y_lenA Try.underlying43 rfl) rfl rfl rfl (gj_step (y_move rfl) rfl rfl rfl (gj_nil ?_))))
  refine ej_th (cj_block ?_)
  refine cj_lpi (X := Nat × List (Int × Bool)) [(1, _), (2, _), (5, _), (9, _), (10, _)] (fun ⟨k, had⟩ => k ≤ to.length ∧ HadIs had (to.take k) ∧ okF res.length to (to.drop k) k = okF res.length to to 0) (fun ⟨k, had⟩ => [(11, .int .i64 k)]) (fun ⟨k, had⟩ => [mp ekI (fun b : Bool => .bool b) m8 had, ownB b2 (cellsB 117 [.slice Ar res.length cr, .slice Av vs.length cv])]) (fun ⟨k, had⟩ => [sl (fun b => b < w.heap.size) 1 enInt Ar res, sl (fun b => b < w.heap.size) 1 encLs Av vs, sl (fun b => b < w.heap.size) 1 enInt At to]) (fun ⟨k, had⟩ => to.length - k) (0, []) (⟨Nat.zero_le _, fun q => rfl, rfl⟩) ⟨rfl, rfl, rfl, rfl, rfl, rfl, trivial⟩ ?_
  rintro ⟨k, had⟩ ⟨hk, hh, hsk⟩
  dsimp only [List.cons_append, List.nil_append]
  refine cj_seq ?_
  refine cj_regionG (gj_step (y_lss rfl rfl) rfl rfl rfl (gj_nil ?_))
  refine ej_th (cj_seq ?_)
  refine cj_cond rfl (fun h12 => ?_) (fun h12 => ?_)
  · have h12b := h12
    try simp only [sxb] at h12
    obtain ⟨x, hx⟩ : ∃ x, to[k]? = some x := ⟨_, List.getElem?_eq_getElem (by omega)⟩
    rw [okF_drop res.length to k x hx] at hsk
    have htk : to.take (k + 1) = to.take k ++ [x] := by rw [List.take_add_one, hx]; rfl
    have hh1 := hh x
    refine cj_skip (ej_th (cj_seq (cj_block (cj_seq ?_))))
    refine cj_regionG (gj_step (y_ixR (reads_sl) Try.underlying43 Try.sizeOf3 rfl rfl (⟨by omega, by omega⟩)) rfl rfl rfl (gj_step (y_ld0 (reads_sl) Try.isAgg3 rfl (hx) rfl) rfl rfl rfl (gj_step (y_assign rfl) rfl rfl rfl (gj_nil ?_))))
    refine ej_th (cj_seq (cj_seq ?_))
    refine cj_regionG ?_
    refine gj_step (y_move rfl) rfl rfl rfl (gj_step (y_fa0 fa117_0 rfl) rfl rfl rfl (gj_step (y_fa0 fa60_0 rfl) rfl rfl rfl (gj_step (y_load1 Try.isAgg43 rfl rfl) rfl rfl rfl (gj_step (y_lenA Try.underlying43 rfl) rfl rfl rfl (gj_step (y_sub rfl rfl (by omega)) rfl rfl rfl (?_))))))
    refine gj_step (y_call Try.call49 rfl (fun w hp => k_within _ _ _ w)) rfl rfl rfl ?_
    refine gj_step (y_not rfl) rfl rfl rfl (gj_step (y_move rfl) rfl rfl rfl (?_))
    refine gj_g 7 23 30 rfl rfl rfl rfl (fun hg23 => gj_yes rfl rfl rfl (y_move rfl) rfl rfl (gj_yes rfl rfl rfl (y_geq rfl rfl) rfl rfl (gj_yes rfl rfl rfl (y_move rfl) rfl rfl (gj_g 3 26 29 rfl rfl rfl rfl (fun hg26 => gj_yes rfl rfl rfl (y_move rfl) rfl rfl (gj_yes rfl rfl rfl (y_move rfl) rfl rfl (gj_yes rfl rfl rfl (y_lookup1 (ek := ekI) (ev := fun b : Bool => .bool b) (kk := x) false Try.underlying141 Try.underlying3 Try.zeroValue4 rfl rfl) rfl rfl (gj_nil rfl)))) (gj_yes rfl rfl rfl (y_and rfl rfl rfl) rfl rfl (gj_nil rfl)))))) ?_
    refine gj_step (y_or rfl rfl rfl) rfl rfl rfl (?_)
    refine gj_nil ?_
    refine ej_th ?_
    refine cj_cond rfl (fun h31 => ?_) (fun h31 => ?_)
    · have h31b := h31
      try simp only [sxb] at h31
      rw [hh1, ok1_V] at h31b
      refine cj_seq ?_
      refine cj_regionG (gj_step (y_assign rfl) rfl rfl rfl (gj_nil ?_))
      refine ej_th (cj_ret (ej_then_ret (ej_blk_ret (ej_then_ret (ej_then_ret (ej_blk_ret (ej_then_ret ?_)))))))
      refine ej_ret1 rfl Try.results80 rfl (fun w' hp => ⟨?_, hp.below⟩)
      rw [fitsB, ← hsk, not_t h31b]; rfl
    · have h31b := h31
      try simp only [sxb] at h31
      rw [hh1, ok1_V] at h31b
      refine cj_skip (ej_th (cj_region ?_))
      refine oj_step (y_move rfl) rfl rfl rfl ?_
      refine oj_step (y_move rfl) rfl rfl rfl ?_
      refine oj_mapUpdate (ek := ekI) (ev := fun b : Bool => .bool b) (kk := x) (v := true) Try.underlying141 Try.underlying3 rfl rfl rfl ?_
      refine oj_nil ?_
      refine ej_blk (ej_th ?_)
      refine cj_regionG (gj_step (y_add rfl rfl (by omega)) rfl rfl rfl (gj_step (y_move rfl) rfl rfl rfl (gj_nil ?_)))
      exact ej_nx (k + 1, putL had x true) (by simp only; omega) ⟨by first | omega | (simp only; omega), by rw [htk]; exact had_put hh x, by rw [← hsk, not_f h31b, Bool.true_and]⟩ ⟨rfl, rfl, rfl, rfl, rfl, rfl, trivial⟩
  · have h12b := h12
    try simp only [sxb] at h12
    refine cj_exit (ej_then_exit (ej_then_exit (ej_blk_hit (ej_th (cj_seq ?_)))))
    refine cj_regionG (gj_step (y_move rfl) rfl rfl rfl (gj_step (y_lenA Try.underlying43 rfl) rfl rfl rfl (gj_step (y_fa0 fa117_0 rfl) rfl rfl rfl (gj_step (y_fa fa60_1 rfl) rfl rfl rfl (gj_step (y_load1 Try.isAgg58 rfl rfl) rfl rfl rfl (gj_step (y_lenA Try.underlying58 rfl) rfl rfl rfl (gj_step (y_eql rfl rfl) rfl rfl rfl (gj_step (y_assign rfl) rfl rfl rfl (gj_nil ?_)))))))))
    refine ej_th (cj_ret ?_)
    refine ej_ret1 rfl Try.results80 rfl (fun w' hp => ⟨?_, hp.below⟩)
    rw [fitsB, ← hsk, List.drop_of_length_le (by omega)]; rfl

theorem k_worth (res : List Int) (Ar : Option Addr) (cr : Nat) (vs : List ListV) (Av : Option Addr) (cv : Nat) (to : List Int) (At : Option Addr) (ct : Nat) (w : World) (hres : Rd w 1 enInt Ar res) (hvs : Rd w 1 encLs Av vs) (hgv : ∀ r ∈ vs, GoodL w r) (hto : Rd w 1 enInt At to) (hco : CloOk res (rowsV vs)) (hok : OkL res.length to) (htl : to.length ≤ vs.length) : Calls Try.prog 81 #[.agg #[.slice Ar res.length cr, .slice Av vs.length cv], .slice At to.length ct] w (fun e w' => e = .returned (.int .i64 (worthP res (rowsV vs) to)) ∧ Grow w w') := by
  have hlr := hres.len
  have hlv := hvs.len
  have hlt := hto.len
  have h6 := hco.m
  have h6v := hco.n
  rw [rowsV_len] at h6v
  refine enter_pure (args := [.agg #[.slice Ar res.length cr, .slice Av vs.length cv], .slice At to.length ct]) [sl (fun b => b < w.heap.size) 1 enInt Ar res, sl (fun b => b < w.heap.size) 1 encLs Av vs, sl (fun b => b < w.heap.size) 1 enInt At to] Try.func81 rfl (by rw [Try.ntmps81]; simp) (fun g hg => by simp at hg; rcases hg with rfl | rfl | rfl; exact ⟨hres, fun _ h => h⟩; exact ⟨hvs, fun _ h => h⟩; exact ⟨hto, fun _ h => h⟩) ?_
  refine cj_seq (cj_region ?_)
  refine oj_box rfl rfl rfl (fun b2 => ?_)
  refine oj_step (y_assign rfl) rfl rfl rfl ?_
  refine oj_nil ?_
  refine ej_th (cj_seq ?_)
  refine cj_regionG (gj_step (y_assign rfl) rfl rfl rfl (gj_nil ?_))
  refine ej_th (cj_seq (cj_seq ?_))
  refine cj_regionG (gj_step (y_fa0 fa117_0 rfl) rfl rfl rfl (gj_step (y_fa0 fa60_0 rfl) rfl rfl rfl (gj_step (y_load1 Try.isAgg43 rfl rfl) rfl rfl rfl (gj_step (y_lenA Try.underlying43 rfl) rfl rfl rfl (gj_step (y_move rfl) rfl rfl rfl (gj_nil ?_))))))
  refine ej_th (cj_block ?_)
  refine cj_lpic (X := Nat × Int) [(1, _), (2, _), (4, _), (12, _), (13, _)] (fun ⟨k, n⟩ => k ≤ res.length ∧ (0 ≤ n ∧ n ≤ 100000 * k) ∧ wFree to (res.drop k) k n = wFree to res 0 0) (fun ⟨k, n⟩ => [(5, .int .i64 n), (14, .int .i64 k)]) (fun ⟨k, n⟩ => res.length - k) (0, 0) (⟨Nat.zero_le _, by omega, rfl⟩) ⟨rfl, rfl, rfl, rfl, rfl, rfl, rfl, trivial⟩ ?_
  rintro ⟨k, n⟩ ⟨hk, hnb, hsk⟩
  dsimp only [List.cons_append, List.nil_append]
  refine cj_seq ?_
  refine cj_regionG (gj_step (y_lss rfl rfl) rfl rfl rfl (gj_nil ?_))
  refine ej_th (cj_seq ?_)
  refine cj_cond rfl (fun h15 => ?_) (fun h15 => ?_)
  · have h15b := h15
    try simp only [sxb] at h15
    obtain ⟨x, hx⟩ : ∃ x, res[k]? = some x := ⟨_, List.getElem?_eq_getElem (by omega)⟩
    have hxb := hco.res x (List.mem_of_getElem? hx)
    rw [wFree_drop to res k x n hx] at hsk
    refine cj_skip (ej_th (cj_seq (cj_block (cj_seq ?_))))
    refine cj_regionG (gj_step (y_move rfl) rfl rfl rfl (gj_step (y_ixR (reads_sl) Try.underlying43 Try.sizeOf3 rfl rfl (⟨by omega, by omega⟩)) rfl rfl rfl (gj_step (y_ld0 (reads_sl) Try.isAgg3 rfl (hx) rfl) rfl rfl rfl (gj_step (y_assign rfl) rfl rfl rfl (gj_step (y_assign rfl) rfl rfl rfl (gj_nil ?_))))))
    refine ej_th (cj_seq ?_)
    refine cj_regionG ?_
    refine gj_step (y_move rfl) rfl rfl rfl (gj_step (y_move rfl) rfl rfl rfl (?_))
    refine gj_step (y_call Try.call89 rfl (fun w hp => k_ContI to At ct (k : Nat) w hp.rd)) rfl rfl rfl ?_
    refine gj_step (y_not rfl) rfl rfl rfl (?_)
    refine gj_nil ?_
    refine ej_th ?_
    refine cj_cond rfl (fun h22 => ?_) (fun h22 => ?_)
    · have h22b := h22
      try simp only [sxb] at h22
      rw [if_neg (by rw [not_t h22b]; simp)] at hsk
      refine cj_regionG (gj_step (y_move rfl) rfl rfl rfl (gj_step (y_move rfl) rfl rfl rfl (gj_step (y_add rfl rfl (by omega)) rfl rfl rfl (gj_step (y_assign rfl) rfl rfl rfl (gj_nil ?_)))))
      refine ej_blk (ej_th ?_)
      refine cj_regionG (gj_step (y_add rfl rfl (by omega)) rfl rfl rfl (gj_step (y_move rfl) rfl rfl rfl (gj_nil ?_)))
      exact ej_nx (k + 1, n + x) (by simp only; omega) ⟨by first | omega | (simp only; omega), by first | omega | (simp only; omega), hsk⟩ ⟨rfl, rfl, rfl, rfl, rfl, rfl, rfl, trivial⟩
    · have h22b := h22
      try simp only [sxb] at h22
      rw [if_pos (not_f h22b)] at hsk
      refine cj_skip (ej_blk (ej_th ?_))
      refine cj_regionG (gj_step (y_add rfl rfl (by omega)) rfl rfl rfl (gj_step (y_move rfl) rfl rfl rfl (gj_nil ?_)))
      exact ej_nx (k + 1, n) (by simp only; omega) ⟨by first | omega | (simp only; omega), by first | omega | (simp only; omega), hsk⟩ ⟨rfl, rfl, rfl, rfl, rfl, rfl, rfl, trivial⟩
  · have h15b := h15
    try simp only [sxb] at h15
    rw [List.drop_of_length_le (by omega)] at hsk
    have hn : n = wFree to res 0 0 := hsk
    subst hn
    refine cj_exit (ej_then_exit (ej_then_exit (ej_blk_hit (ej_th (cj_seq (cj_seq ?_))))))
    refine cj_regionG (gj_step (y_move rfl) rfl rfl rfl (gj_step (y_lenA Try.underlying43 rfl) rfl rfl rfl (gj_step (y_move rfl) rfl rfl rfl (gj_nil ?_))))
    refine ej_th (cj_block ?_)
    refine cj_lpic (X := Nat × Int) [(2, _), (4, _), (27, _), (28, _)] (fun ⟨i, n2⟩ => i ≤ to.length ∧ (0 ≤ n2 ∧ n2 ≤ 600000 + 100000 * i) ∧ wGot (rowsV vs) (to.drop i) i n2 = worthP res (rowsV vs) to) (fun ⟨i, n2⟩ => [(5, .int .i64 n2), (29, .int .i64 i)]) (fun ⟨i, n2⟩ => to.length - i) (0, wFree to res 0 0) (⟨Nat.zero_le _, by first | omega | (simp only; omega), rfl⟩) ⟨rfl, rfl, rfl, rfl, rfl, rfl, trivial⟩ ?_
    rintro ⟨i, n2⟩ ⟨hi, hnb2, hsj⟩
    dsimp only [List.cons_append, List.nil_append]
    refine cj_seq ?_
    refine cj_regionG (gj_step (y_lss rfl rfl) rfl rfl rfl (gj_nil ?_))
    refine ej_th (cj_seq ?_)
    refine cj_cond rfl (fun h30 => ?_) (fun h30 => ?_)
    · have h30b := h30
      try simp only [sxb] at h30
      obtain ⟨x, hx⟩ : ∃ x, to[i]? = some x := ⟨_, List.getElem?_eq_getElem (by omega)⟩
      rw [wGot_drop (rowsV vs) to i x n2 hx] at hsj
      have hxr := hok.rng x (List.mem_of_getElem? hx)
      refine cj_skip (ej_th (cj_seq (cj_block (cj_seq ?_))))
      refine cj_regionG (gj_step (y_move rfl) rfl rfl rfl (gj_step (y_ixR (reads_sl) Try.underlying43 Try.sizeOf3 rfl rfl (⟨by omega, by omega⟩)) rfl rfl rfl (gj_step (y_ld0 (reads_sl) Try.isAgg3 rfl (hx) rfl) rfl rfl rfl (gj_step (y_assign rfl) rfl rfl rfl (gj_step (y_assign rfl) rfl rfl rfl (gj_nil ?_))))))
      refine ej_th (cj_seq ?_)
      refine cj_regionG (gj_step (y_move rfl) rfl rfl rfl (gj_step (y_geq rfl rfl) rfl rfl rfl (gj_nil ?_)))
      refine ej_th ?_
      refine cj_cond rfl (fun h35 => ?_) (fun h35 => ?_)
      · have h35b := h35
        try simp only [sxb] at h35
        obtain ⟨r, hr⟩ : ∃ r, vs[i]? = some r := ⟨_, List.getElem?_eq_getElem (by omega)⟩
        have hgr := hgv r (List.mem_of_getElem? hr)
        have hrl := hgr.len
        have hrm : r.l.length = res.length := hco.len _ (List.mem_of_getElem? (rowsV_get hr))
        obtain ⟨v, hv⟩ : ∃ v, r.l[x.toNat]? = some v := ⟨_, List.getElem?_eq_getElem (by omega)⟩
        have hvb := hco.val _ (List.mem_of_getElem? (rowsV_get hr)) v (List.mem_of_getElem? hv)
        rw [if_pos h35, vv_get hr hv] at hsj
        refine cj_rd hgr (fun _ h => h) ?_
        refine cj_regionG (gj_step (y_move rfl) rfl rfl rfl (gj_step (y_fa0 fa117_0 rfl) rfl rfl rfl (gj_step (y_fa fa60_1 rfl) rfl rfl rfl (gj_step (y_load1 Try.isAgg58 rfl rfl) rfl rfl rfl (gj_step (y_move rfl) rfl rfl rfl (gj_step (y_ixR (reads_sl) Try.underlying58 Try.sizeOf43 rfl rfl (⟨by omega, by omega⟩)) rfl rfl rfl (gj_step (y_ld0 (reads_sl) Try.isAgg43 rfl (hr) rfl) rfl rfl rfl (gj_step (y_move rfl) rfl rfl rfl (gj_step (y_ixR (reads_sl) Try.underlying43 Try.sizeOf3 rfl rfl (⟨by omega, by omega⟩)) rfl rfl rfl (gj_step (y_ld0 (reads_sl) Try.isAgg3 rfl (hv) rfl) rfl rfl rfl (gj_step (y_add rfl rfl (by omega)) rfl rfl rfl (gj_step (y_assign rfl) rfl rfl rfl (gj_nil ?_)))))))))))))
        refine ej_blk (ej_th ?_)
        refine cj_regionG (gj_step (y_add rfl rfl (by omega)) rfl rfl rfl (gj_step (y_move rfl) rfl rfl rfl (gj_nil ?_)))
        exact ej_nx (i + 1, n2 + v) (by simp only; omega) ⟨by first | omega | (simp only; omega), by first | omega | (simp only; omega), hsj⟩ ⟨rfl, rfl, rfl, rfl, rfl, rfl, trivial⟩
      · have h35b := h35
        try simp only [sxb] at h35
        rw [if_neg (by omega)] at hsj
        refine cj_skip (ej_blk (ej_th ?_))
        refine cj_regionG (gj_step (y_add rfl rfl (by omega)) rfl rfl rfl (gj_step (y_move rfl) rfl rfl rfl (gj_nil ?_)))
        exact ej_nx (i + 1, n2) (by simp only; omega) ⟨by first | omega | (simp only; omega), by first | omega | (simp only; omega), hsj⟩ ⟨rfl, rfl, rfl, rfl, rfl, rfl, trivial⟩
    · have h30b := h30
      try simp only [sxb] at h30
      refine cj_exit (ej_then_exit (ej_then_exit (ej_blk_hit (ej_th (cj_seq ?_)))))
      refine cj_regionG (gj_step (y_move rfl) rfl rfl rfl (gj_step (y_assign rfl) rfl rfl rfl (gj_nil ?_)))
      refine ej_th (cj_ret ?_)
      refine ej_ret1 rfl Try.results81 rfl (fun w' hp => ⟨?_, hp.below⟩)
      rw [List.drop_of_length_le (show to.length ≤ i by omega)] at hsj
      rw [← hsj]; rfl

theorem k_Worth (res : List Int) (Ar : Option Addr) (cr : Nat) (vs : List ListV) (Av : Option Addr) (cv : Nat) (to : List Int) (At : Option Addr) (ct : Nat) (w : World) (hres : Rd w 1 enInt Ar res) (hvs : Rd w 1 encLs Av vs) (hgv : ∀ r ∈ vs, GoodL w r) (hto : Rd w 1 enInt At to) : Calls Try.prog 38 #[.agg #[.slice Ar res.length cr, .slice Av vs.length cv], .slice At to.length ct] w (fun e w' => e = .returned (.tuple #[.int .i64 (WorV res vs to), .int .i64 (WorE res vs to)]) ∧ Grow w w') := by
  refine enter_pure (args := [.agg #[.slice Ar res.length cr, .slice Av vs.length cv], .slice At to.length ct]) [sl (fun b => b < w.heap.size) 1 enInt Ar res, sl (fun b => b < w.heap.size) 1 encLs Av vs, sl (fun b => b < w.heap.size) 1 enInt At to] Try.func38 rfl (by rw [Try.ntmps38]; simp) (fun g hg => by simp at hg; rcases hg with rfl | rfl | rfl; exact ⟨hres, fun _ h => h⟩; exact ⟨hvs, fun _ h => h⟩; exact ⟨hto, fun _ h => h⟩) ?_
  refine cj_seq (cj_region ?_)
  refine oj_box rfl rfl rfl (fun b2 => ?_)
  refine oj_step (y_assign rfl) rfl rfl rfl ?_
  refine oj_step (y_assign rfl) rfl rfl rfl ?_
  refine oj_nil ?_
  refine ej_th (cj_seq (cj_seq ?_))
  refine cj_regionG ?_
  refine gj_step (y_loadN Try.isAgg60 Try.sizeOf60 rfl) rfl rfl rfl (?_)
  refine gj_step (y_call Try.call40 rfl (fun w hp => k_CheckC res Ar cr vs Av cv w hp.rd hp.rd (fun r h => (hgv r h).mono hp.below))) rfl rfl rfl ?_
  refine gj_step (y_assign rfl) rfl rfl rfl (?_)
  refine gj_nil ?_
  refine ej_th (cj_seq ?_)
  refine cj_regionG (gj_step (y_move rfl) rfl rfl rfl (gj_step (y_neq rfl rfl) rfl rfl rfl (gj_nil ?_)))
  refine ej_th ?_
  refine cj_cond rfl (fun h10 => ?_) (fun h10 => ?_)
  · have h10b := h10
    try simp only [sxb] at h10
    obtain ⟨e1, e2⟩ := wor_no (to := to) (cloE_no h10b)
    have hno := cloE_no h10b
    refine cj_seq ?_
    refine cj_regionG (gj_step (y_move rfl) rfl rfl rfl (gj_step (y_assign rfl) rfl rfl rfl (gj_step (y_assign rfl) rfl rfl rfl (gj_nil ?_))))
    refine ej_th (cj_ret (ej_then_ret ?_))
    refine ej_ret2 rfl Try.results38 rfl rfl (fun w' hp => ⟨?_, hp.below⟩)
    rw [e1, e2, cloE, hno]; rfl
  · have h10b := h10
    try simp only [sxb] at h10
    have hyes := cloE_0 h10b
    obtain ⟨hco, hc5, hc6⟩ := clo_ok hyes
    refine cj_skip (ej_th (cj_seq (cj_seq ?_)))
    refine cj_regionG ?_
    refine gj_step (y_loadN Try.isAgg60 Try.sizeOf60 rfl) rfl rfl rfl (gj_step (y_build (cs := [.slice Ar res.length cr, .slice Av vs.length cv]) st117 rfl (by kernel_rfl)) rfl rfl rfl (gj_step (y_move rfl) rfl rfl rfl (?_)))
    refine gj_step (y_call Try.call80 rfl (fun w hp => k_fits res Ar cr vs Av cv to At ct w hp.rd hp.rd hp.rd)) rfl rfl rfl ?_
    refine gj_step (y_not rfl) rfl rfl rfl (?_)
    refine gj_nil ?_
    refine ej_th ?_
    refine cj_cond rfl (fun h16 => ?_) (fun h16 => ?_)
    · have h16b := h16
      try simp only [sxb] at h16
      obtain ⟨e1, e2⟩ := wor_no2 hyes (not_t h16b)
      refine cj_seq ?_
      refine cj_regionG (gj_step (y_assign rfl) rfl rfl rfl (gj_step (y_assign rfl) rfl rfl rfl (gj_nil ?_)))
      refine ej_th (cj_ret (ej_then_ret ?_))
      refine ej_ret2 rfl Try.results38 rfl rfl (fun w' hp => ⟨?_, hp.below⟩)
      rw [e1, e2]
    · have h16b := h16
      try simp only [sxb] at h16
      have hfo := fits_ok (not_f h16b)
      obtain ⟨e1, e2⟩ := wor_yes hyes (not_f h16b)
      refine cj_skip (ej_th (cj_seq ?_))
      refine cj_regionG ?_
      refine gj_step (y_loadN Try.isAgg60 Try.sizeOf60 rfl) rfl rfl rfl (gj_step (y_build (cs := [.slice Ar res.length cr, .slice Av vs.length cv]) st117 rfl (by kernel_rfl)) rfl rfl rfl (gj_step (y_move rfl) rfl rfl rfl (?_)))
      refine gj_step (y_call Try.call81 rfl (fun w hp => k_worth res Ar cr vs Av cv to At ct w hp.rd hp.rd (fun r h => (hgv r h).mono hp.below) hp.rd hco hfo.1 (by omega))) rfl rfl rfl ?_
      refine gj_step (y_assign rfl) rfl rfl rfl (gj_step (y_assign rfl) rfl rfl rfl (?_))
      refine gj_nil ?_
      refine ej_th (cj_ret ?_)
      refine ej_ret2 rfl Try.results38 rfl rfl (fun w' hp => ⟨?_, hp.below⟩)
      rw [e1, e2]

end Go.Proofs.Ytehmifpofpifkaa
namespace Go.Proofs.Ytehmifpofpifkaa
open Go.Sx Go.RowKit Am
set_option maxRecDepth 20000
theorem k_CloneI (l : List Int) (A : Option Addr) (c : Nat) (w : World) (hl : Rd w 1 enInt A l) (h8 : l.length ≤ 1000000) : Calls Try.prog 69 #[.slice A l.length c] w (fun e w' => ∃ B d, e = .returned (.slice B l.length d) ∧ Grow w w' ∧ (ow 3 1 enInt B d l).P w' ∧ ∀ b, (ow 3 1 enInt B d l).fp b → w.heap.size ≤ b) := by
  refine enter_pure (args := [.slice A l.length c]) [sl (fun b => b < w.heap.size) 1 enInt A l] Try.func69 rfl (by rw [Try.ntmps69]; simp) (fun g hg => by simp at hg; subst hg; exact ⟨hl, fun _ h => h⟩) ?_
  refine cj_seq ?_
  refine cj_regionG (gj_step (y_assign rfl) rfl rfl rfl (gj_nil ?_))
  refine ej_th (cj_seq (cj_seq ?_))
  refine cj_regionG (gj_step (y_move rfl) rfl rfl rfl (gj_step (y_eqlNil Try.underlying43 rfl rfl) rfl rfl rfl (gj_nil ?_)))
  refine ej_th ?_
  refine cj_cond rfl (fun h4 => ?_) (fun h4 => ?_)
  · have h4b := h4
    try simp only [sxb] at h4
    have hl0 : l = [] := by
      cases l with
      | nil => rfl
      | cons x r => exact absurd (by cases A with | none => rfl | some a => cases h4) (hl.ne (by simp))
    refine cj_seq ?_
    refine cj_regionG (gj_step (y_assign rfl) rfl rfl rfl (gj_nil ?_))
    refine ej_th (cj_ret (ej_then_ret ?_))
    subst hl0
    exact ej_ret1 rfl Try.results69 rfl (fun w' hp => ⟨none, 0, rfl, hp.below, ow_nil 3 1 enInt w', fun b hb => by cases hb⟩)
  · have h4b := h4
    try simp only [sxb] at h4
    refine cj_skip (ej_th (cj_seq (cj_region ?_)))
    refine oj_buildSlice (cs := []) [] Try.underlying43 Try.sizeOf3 Try.zeroValue3 rfl rfl (by kernel_rfl) (by kernel_rfl) rfl (fun b5 => ?_)
    refine oj_litOw (b := b5) (e := 3) (c := 0) (sz := 1) (enc := enInt) [] rfl rfl rfl (by unfold maxLen; simp) ?_
    refine oj_step (y_move rfl) rfl rfl rfl ?_
    refine oj_append (xs := ([] : List Int)) (c := 0) el43 (fun _ => rfl) enInt_one rfl rfl rfl (reads_sl) (by unfold maxLen; simp only [List.length_nil]; omega) (by simp only [List.length_nil]; omega) rfl (fun A7 c7 => ?_)
    refine oj_step (y_assign rfl) rfl rfl rfl ?_
    refine oj_nil ?_
    refine ej_th (cj_ret ?_)
    exact ej_ret1 rfl Try.results69 rfl (fun w' hp => ⟨A7, c7, by simp, hp.below, by have h9 := hp.resO (A := A7) (e := 3) (c := c7) (sz := 1) (enc := enInt) (xs := [] ++ l); simpa using h9⟩)

set_option maxHeartbeats 1000000 in
theorem k_next1 (res : List Int) (Ar : Option Addr) (cr : Nat) (vs : List ListV) (Av : Option Addr) (cv : Nat) (fpr fpv fpw : Nat → Prop) (bc bm bt bn : Nat) (d : Nat) (so : List Int) (A : Option Addr) (c : Nat) (s : List Int × Int) (At : Option Addr) (ct : Nat) (w : World) (hco : CloOk res (rowsV vs)) (hd : so.length + d = vs.length) (hok : OkL res.length so) (hO : ∀ f ∈ [ownB bm (cellsB 3 [.int .i64 s.2]), ownB bt (cellsB 43 [.slice At s.1.length ct]), ow 3 1 enInt At ct s.1, ow 3 1 enInt A c so], f.P w ∧ ∀ b, f.fp b → b < w.heap.size) (hap : [ownB bm (cellsB 3 [.int .i64 s.2]), ownB bt (cellsB 43 [.slice At s.1.length ct]), ow 3 1 enInt At ct s.1, ow 3 1 enInt A c so].Pairwise (fun f g => ∀ b, f.fp b → ¬ g.fp b)) (hS : ∀ g ∈ [ownB bc (cellsB 117 [.slice Ar res.length cr, .slice Av vs.length cv]), ownB bn (cellsB 140 [.func (.func 101) #[] #[.pointer (some ⟨bc, 0, none⟩), .pointer (some ⟨bm, 0, none⟩), .pointer (some ⟨bt, 0, none⟩), .pointer (some ⟨bn, 0, none⟩)]]), sl fpr 1 enInt Ar res, sl fpv 1 encLs Av vs, rwF fpw vs], g.P w ∧ ∀ i, g.fp i → i < w.heap.size ∧ ∀ f ∈ [ownB bm (cellsB 3 [.int .i64 s.2]), ownB bt (cellsB 43 [.slice At s.1.length ct]), ow 3 1 enInt At ct s.1, ow 3 1 enInt A c so], ¬ f.fp i) (ih : ∀ d1, d1 + 1 = d → ∀ (so : List Int) (A : Option Addr) (c : Nat) (s : List Int × Int) (At : Option Addr) (ct : Nat) (w : World) (_ : so.length + d1 = vs.length) (_ : OkL res.length so) (_ : ∀ f ∈ [ownB bm (cellsB 3 [.int .i64 s.2]), ownB bt (cellsB 43 [.slice At s.1.length ct]), ow 3 1 enInt At ct s.1, ow 3 1 enInt A c so], f.P w ∧ ∀ b, f.fp b → b < w.heap.size) (_ : [ownB bm (cellsB 3 [.int .i64 s.2]), ownB bt (cellsB 43 [.slice At s.1.length ct]), ow 3 1 enInt At ct s.1, ow 3 1 enInt A c so].Pairwise (fun f g => ∀ b, f.fp b → ¬ g.fp b)) (_ : ∀ g ∈ [ownB bc (cellsB 117 [.slice Ar res.length cr, .slice Av vs.length cv]), ownB bn (cellsB 140 [.func (.func 101) #[] #[.pointer (some ⟨bc, 0, none⟩), .pointer (some ⟨bm, 0, none⟩), .pointer (some ⟨bt, 0, none⟩), .pointer (some ⟨bn, 0, none⟩)]]), sl fpr 1 enInt Ar res, sl fpv 1 encLs Av vs, rwF fpw vs], g.P w ∧ ∀ i, g.fp i → i < w.heap.size ∧ ∀ f ∈ [ownB bm (cellsB 3 [.int .i64 s.2]), ownB bt (cellsB 43 [.slice At s.1.length ct]), ow 3 1 enInt At ct s.1, ow 3 1 enInt A c so], ¬ f.fp i), Calls Try.prog 101 #[.slice A so.length c, .pointer (some ⟨bc, 0, none⟩), .pointer (some ⟨bm, 0, none⟩), .pointer (some ⟨bt, 0, none⟩), .pointer (some ⟨bn, 0, none⟩)] w (fun e w' => ∃ z : Option Addr × Nat, e = .returned (.tuple #[]) ∧ Giv [ownB bm (cellsB 3 [.int .i64 s.2]), ownB bt (cellsB 43 [.slice At s.1.length ct]), ow 3 1 enInt At ct s.1, ow 3 1 enInt A c so] w w' [ownB bm (cellsB 3 [.int .i64 (goB (worthP res (rowsV vs)) res.length d1 so s).2]), ownB bt (cellsB 43 [.slice z.1 (goB (worthP res (rowsV vs)) res.length d1 so s).1.length z.2]), ow 3 1 enInt z.1 z.2 (goB (worthP res (rowsV vs)) res.length d1 so s).1, ow 3 1 enInt A c so])) : Calls Try.prog 101 #[.slice A so.length c, .pointer (some ⟨bc, 0, none⟩), .pointer (some ⟨bm, 0, none⟩), .pointer (some ⟨bt, 0, none⟩), .pointer (some ⟨bn, 0, none⟩)] w (fun e w' => ∃ z : Option Addr × Nat, e = .returned (.tuple #[]) ∧ Giv [ownB bm (cellsB 3 [.int .i64 s.2]), ownB bt (cellsB 43 [.slice At s.1.length ct]), ow 3 1 enInt At ct s.1, ow 3 1 enInt A c so] w w' [ownB bm (cellsB 3 [.int .i64 (goB (worthP res (rowsV vs)) res.length d so s).2]), ownB bt (cellsB 43 [.slice z.1 (goB (worthP res (rowsV vs)) res.length d so s).1.length z.2]), ow 3 1 enInt z.1 z.2 (goB (worthP res (rowsV vs)) res.length d so s).1, ow 3 1 enInt A c so]) := by
  have h6v := hco.n
  rw [rowsV_len] at h6v
  have h6m := hco.m
  have hAn : A = none → so = [] ∧ c = 0 := fun e => by subst e; exact ow_none (hO _ (List.mem_cons_of_mem _ (List.mem_cons_of_mem _ (List.mem_cons_of_mem _ (List.mem_cons_self ..))))).1
  refine enterO (args := [.slice A so.length c, .pointer (some ⟨bc, 0, none⟩), .pointer (some ⟨bm, 0, none⟩), .pointer (some ⟨bt, 0, none⟩), .pointer (some ⟨bn, 0, none⟩)]) [ownB bm (cellsB 3 [.int .i64 s.2]), ownB bt (cellsB 43 [.slice At s.1.length ct]), ow 3 1 enInt At ct s.1, ow 3 1 enInt A c so] [ownB bc (cellsB 117 [.slice Ar res.length cr, .slice Av vs.length cv]), ownB bn (cellsB 140 [.func (.func 101) #[] #[.pointer (some ⟨bc, 0, none⟩), .pointer (some ⟨bm, 0, none⟩), .pointer (some ⟨bt, 0, none⟩), .pointer (some ⟨bn, 0, none⟩)]]), sl fpr 1 enInt Ar res, sl fpv 1 encLs Av vs, rwF fpw vs] Try.func101 rfl (by rw [Try.ntmps101]; simp) hO hap hS ?_
  refine cj_seq (cj_seq ?_)
  refine cj_regionG (gj_step (y_move rfl) rfl rfl rfl (gj_step (y_lenA Try.underlying43 rfl) rfl rfl rfl (gj_step (y_fa0 fa117_0 rfl) rfl rfl rfl (gj_step (y_fa fa60_1 rfl) rfl rfl rfl (gj_step (y_loadS1 Try.isAgg58 rfl rfl) rfl rfl rfl (gj_step (y_lenA Try.underlying58 rfl) rfl rfl rfl (gj_step (y_eql rfl rfl) rfl rfl rfl (gj_nil ?_))))))))
  refine ej_th ?_
  refine cj_cond rfl (fun h14 => ?_) (fun h14 => ?_)
  · have h14b := h14
    try simp only [sxb] at h14
    have hd0 : d = 0 := by omega
    subst hd0
    refine cj_seq (cj_seq ?_)
    refine cj_regionG ?_
    refine gj_step (y_loadSN Try.isAgg117 Try.sizeOf117 rfl) rfl rfl rfl (gj_step (y_move rfl) rfl rfl rfl (?_))
    refine gj_step (y_call Try.call81 rfl (fun w hp => k_worth res Ar cr vs Av cv so A c w hp.rd hp.rd (rw_good (fp := fpw) hp (.tail _ (.tail _ (.tail _ (.tail _ (.head _)))))) (hp.rdO (fun _ => rfl) (by unfold maxLen; omega)) hco hok (by omega))) rfl rfl rfl ?_
    refine gj_step (y_assign rfl) rfl rfl rfl (?_)
    refine gj_nil ?_
    refine ej_th (cj_seq ?_)
    refine cj_regionG (gj_step (y_move rfl) rfl rfl rfl (gj_step (y_load1 Try.isAgg3 rfl rfl) rfl rfl rfl (gj_step (y_gtr rfl rfl) rfl rfl rfl (gj_nil ?_))))
    refine ej_th ?_
    refine cj_cond rfl (fun h20 => ?_) (fun h20 => ?_)
    · have h20b := h20
      try simp only [sxb] at h20
      have hs2 : goB (worthP res (rowsV vs)) res.length 0 so s = (so, worthP res (rowsV vs) so) := by rw [goB, bestS, if_pos h20]
      refine cj_region ?_
      refine oj_step (y_move rfl) rfl rfl rfl ?_
      refine oj_callO (fun B d => .slice B so.length d) 3 1 enInt so Try.call69 rfl (fun w hp => k_CloneI so A c w (hp.rdO (fun _ => rfl) (by unfold maxLen; omega)) (by omega)) rfl (fun B22 c22 => ?_)
      refine oj_step (y_move rfl) rfl rfl rfl ?_
      refine oj_store rfl rfl rfl rfl Try.sizeOf43 rfl ?_
      refine oj_store rfl rfl rfl rfl Try.sizeOf3 rfl ?_
      refine oj_nil ?_
      refine ej_th (cj_ret (ej_then_ret ?_))
      exact ej_ret0 rfl Try.results101 (fun w' hp => ⟨(B22, c22), rfl, by rw [hs2]; exact hp.givT _⟩)
    · have h20b := h20
      try simp only [sxb] at h20
      have hs2 : goB (worthP res (rowsV vs)) res.length 0 so s = s := by rw [goB, bestS, if_neg (by omega)]
      refine cj_skip (ej_th (cj_ret (ej_then_ret ?_)))
      exact ej_ret0 rfl Try.results101 (fun w' hp => ⟨(At, ct), rfl, by rw [hs2]; exact hp.givT _⟩)
  · have h14b := h14
    try simp only [sxb] at h14
    obtain ⟨d1, hd1⟩ : ∃ d1, d1 + 1 = d := ⟨d - 1, by omega⟩
    subst hd1
    have hd1 : d1 + 1 = d1 + 1 := rfl
    refine cj_skip (ej_th (cj_seq ?_))
    refine cj_regionG (gj_step (y_assign rfl) rfl rfl rfl (gj_nil ?_))
    refine ej_th (cj_block ?_)
    refine cj_lpi (X := Nat × (List Int × Int) × Option Addr × Nat) [(0, _), (1, _), (4, _)] (fun ⟨t, s2, At2, ct2⟩ => t ≤ res.length + 1 ∧ goK (worthP res (rowsV vs)) res.length d1 so t s2 = goB (worthP res (rowsV vs)) res.length (d1 + 1) so s) (fun ⟨t, s2, At2, ct2⟩ => [(7, .int .i64 ((t : Int) - 1))]) (fun ⟨t, s2, At2, ct2⟩ => [ownB bm (cellsB 3 [.int .i64 s2.2]), ownB bt (cellsB 43 [.slice At2 s2.1.length ct2]), ow 3 1 enInt At2 ct2 s2.1, ow 3 1 enInt A c so]) (fun ⟨t, s2, At2, ct2⟩ => [ownB bc (cellsB 117 [.slice Ar res.length cr, .slice Av vs.length cv]), ownB bn (cellsB 140 [.func (.func 101) #[] #[.pointer (some ⟨bc, 0, none⟩), .pointer (some ⟨bm, 0, none⟩), .pointer (some ⟨bt, 0, none⟩), .pointer (some ⟨bn, 0, none⟩)]]), sl fpr 1 enInt Ar res, sl fpv 1 encLs Av vs, rwF fpw vs]) (fun ⟨t, s2, At2, ct2⟩ => res.length + 1 - t) (0, s, At, ct) (⟨Nat.zero_le _, rfl⟩) ⟨rfl, rfl, rfl, rfl, trivial⟩ ?_
    rintro ⟨t, s2, At2, ct2⟩ ⟨ht, hsk⟩
    dsimp only [List.cons_append, List.nil_append]
    refine cj_seq (cj_seq ?_)
    refine cj_regionG (gj_step (y_move rfl) rfl rfl rfl (gj_step (y_fa0 fa117_0 rfl) rfl rfl rfl (gj_step (y_fa0 fa60_0 rfl) rfl rfl rfl (gj_step (y_loadS1 Try.isAgg43 rfl rfl) rfl rfl rfl (gj_step (y_lenA Try.underlying43 rfl) rfl rfl rfl (gj_step (y_lss rfl rfl) rfl rfl rfl (gj_nil ?_)))))))
    refine ej_th ?_
    refine cj_cond rfl (fun h29 => ?_) (fun h29 => ?_)
    · have h29b := h29
      try simp only [sxb] at h29
      rw [goK_s (by omega)] at hsk
      refine cj_skip (ej_th (cj_seq (cj_block (cj_seq ?_))))
      refine cj_regionG ?_
      refine gj_step (y_move rfl) rfl rfl rfl (gj_step (y_lss rfl rfl) rfl rfl rfl (gj_step (y_move rfl) rfl rfl rfl (?_)))
      refine gj_g 4 34 38 rfl rfl rfl rfl (fun hg34 => gj_yes rfl rfl rfl (y_move rfl) rfl rfl (gj_yes rfl rfl rfl (y_move rfl) rfl rfl (gj_yes rfl rfl rfl (y_call Try.call89 rfl (fun w hp => k_ContI so A c ((t : Int) - 1) w (hp.rdO (fun _ => rfl) (by unfold maxLen; omega)))) rfl rfl (gj_yes rfl rfl rfl (y_not rfl) rfl rfl (gj_nil rfl))))) ?_
      refine gj_step (y_or rfl rfl rfl) rfl rfl rfl (?_)
      refine gj_nil ?_
      refine ej_th ?_
      refine cj_cond rfl (fun h39 => ?_) (fun h39 => ?_)
      · have h39b := h39
        try simp only [sxb] at h39
        have hkc : ((t : Int) - 1) < 0 ∨ so.contains ((t : Int) - 1) = false := by simpa using h39b
        have hokk : OkL res.length (so ++ [((t : Int) - 1)]) := OkL.snoc.2 ⟨hok, by omega, fun h0 hm => by
          rcases hkc with h | h
          · omega
          · rw [List.contains_iff_mem.2 hm] at h; cases h⟩
        rw [stK, if_pos hkc] at hsk
        refine cj_plan 6 (by kernel_rfl) (by kernel_rfl) ?_
        refine pl_y 0 rfl (y_loadS1 Try.isAgg140 rfl rfl) rfl rfl rfl rfl (by kernel_rfl) ?_
        refine pl_y 1 rfl (y_move rfl) rfl rfl rfl rfl (by kernel_rfl) ?_
        refine pl_y 2 rfl (y_move rfl) rfl rfl rfl rfl (by kernel_rfl) ?_
        refine pl_w1 3 (by kernel_rfl) rfl rfl (pl_fire rfl rfl rfl (by kernel_rfl) ?_)
        refine oj_buildSlice (cs := [.int .i64 ((t : Int) - 1)]) [.int .i64 0] Try.underlying43 Try.sizeOf3 Try.zeroValue3 rfl rfl (by kernel_rfl) (by kernel_rfl) rfl (fun b43 => ?_)
        refine oj_nil ?_
        refine ej_pl (lt_w (by kernel_rfl) (lt_y (y_move rfl) rfl (lt_y (y_loadS1 Try.isAgg140 rfl rfl) rfl (lt_nil)))) ?_
        refine pl_w1 4 (by kernel_rfl) rfl rfl (pl_fire rfl rfl rfl (by kernel_rfl) ?_)
        refine oj_appendK (y := ((t : Int) - 1)) el43 (fun _ => rfl) enInt_one rfl rfl (reads_lit [((t : Int) - 1)] (fun _ => rfl) rfl) (by unfold maxLen; omega) (by omega) rfl (fun hroom => ?_) (fun A44 c44 => ?_)
        · refine oj_nil ?_
          refine ej_pl (lt_y (y_move rfl) rfl (lt_w (by kernel_rfl) (lt_y (y_loadS1 Try.isAgg140 rfl rfl) rfl (lt_nil)))) ?_
          refine pl_w1 5 (by kernel_rfl) rfl rfl (pl_fire rfl rfl rfl (by kernel_rfl) ?_)
          refine oj_callL (X := Option Addr × Nat) (fun _ => .tuple #[]) [ownB bm (cellsB 3 [.int .i64 s2.2]), ownB bt (cellsB 43 [.slice At2 s2.1.length ct2]), ow 3 1 enInt At2 ct2 s2.1, ow 3 1 enInt A c (so ++ [((t : Int) - 1)])] (fun z => [ownB bm (cellsB 3 [.int .i64 (goB (worthP res (rowsV vs)) res.length d1 (so ++ [((t : Int) - 1)]) s2).2]), ownB bt (cellsB 43 [.slice z.1 (goB (worthP res (rowsV vs)) res.length d1 (so ++ [((t : Int) - 1)]) s2).1.length z.2]), ow 3 1 enInt z.1 z.2 (goB (worthP res (rowsV vs)) res.length d1 (so ++ [((t : Int) - 1)]) s2).1, ow 3 1 enInt A c (so ++ [((t : Int) - 1)])]) Try.call101 rfl rfl (fun w1 hp => by
            obtain ⟨q1, q2, q3⟩ := hp.ownL (Os := [ownB bm (cellsB 3 [.int .i64 s2.2]), ownB bt (cellsB 43 [.slice At2 s2.1.length ct2]), ow 3 1 enInt At2 ct2 s2.1, ow 3 1 enInt A c (so ++ [((t : Int) - 1)])]) inferInstance
            exact ih d1 hd1 (so ++ [((t : Int) - 1)]) A c s2 At2 ct2 w1 (by simp only [List.length_append, List.length_cons, List.length_nil]; omega) hokk q1 q2 q3) rfl (fun z => ?_)
          obtain ⟨At3, ct3⟩ := z
          dsimp only [List.cons_append, List.nil_append]
          refine oj_nil ?_
          refine ej_pl (lt_y (y_move rfl) rfl (lt_y (y_move rfl) rfl (lt_w (by kernel_rfl) (lt_nil)))) ?_
          refine pl_end (by kernel_rfl) ?_
          refine ej_blk (ej_th ?_)
          refine cj_regionG (gj_step (y_move rfl) rfl rfl rfl (gj_step (y_add rfl rfl (by omega)) rfl rfl rfl (gj_step (y_assign rfl) rfl rfl rfl (gj_nil ?_))))
          rw [show ((t : Nat) : Int) - 1 + 1 = ((t + 1 : Nat) : Int) - 1 by omega]
          refine ej_cutO (e := 3) (sz := 1) (enc := enInt) (A := A) (c := c) (xs := so) (ys := [((t : Int) - 1)]) (fun _ => rfl) hAn ?_
          exact ej_nx (t + 1, goB (worthP res (rowsV vs)) res.length d1 (so ++ [((t : Int) - 1)]) s2, At3, ct3) (by simp only; omega) ⟨by first | omega | (simp only; omega), hsk⟩ ⟨rfl, rfl, rfl, rfl, trivial⟩
        · refine oj_nil ?_
          refine ej_pl (lt_y (y_move rfl) rfl (lt_w (by kernel_rfl) (lt_y (y_loadS1 Try.isAgg140 rfl rfl) rfl (lt_nil)))) ?_
          refine pl_w1 5 (by kernel_rfl) rfl rfl (pl_fire rfl rfl rfl (by kernel_rfl) ?_)
          refine oj_callL (X := Option Addr × Nat) (fun _ => .tuple #[]) [ownB bm (cellsB 3 [.int .i64 s2.2]), ownB bt (cellsB 43 [.slice At2 s2.1.length ct2]), ow 3 1 enInt At2 ct2 s2.1, ow 3 1 enInt A44 c44 (so ++ [((t : Int) - 1)])] (fun z => [ownB bm (cellsB 3 [.int .i64 (goB (worthP res (rowsV vs)) res.length d1 (so ++ [((t : Int) - 1)]) s2).2]), ownB bt (cellsB 43 [.slice z.1 (goB (worthP res (rowsV vs)) res.length d1 (so ++ [((t : Int) - 1)]) s2).1.length z.2]), ow 3 1 enInt z.1 z.2 (goB (worthP res (rowsV vs)) res.length d1 (so ++ [((t : Int) - 1)]) s2).1, ow 3 1 enInt A44 c44 (so ++ [((t : Int) - 1)])]) Try.call101 rfl rfl (fun w1 hp => by
            obtain ⟨q1, q2, q3⟩ := hp.ownL (Os := [ownB bm (cellsB 3 [.int .i64 s2.2]), ownB bt (cellsB 43 [.slice At2 s2.1.length ct2]), ow 3 1 enInt At2 ct2 s2.1, ow 3 1 enInt A44 c44 (so ++ [((t : Int) - 1)])]) inferInstance
            exact ih d1 hd1 (so ++ [((t : Int) - 1)]) A44 c44 s2 At2 ct2 w1 (by simp only [List.length_append, List.length_cons, List.length_nil]; omega) hokk q1 q2 q3) rfl (fun z => ?_)
          obtain ⟨At3, ct3⟩ := z
          dsimp only [List.cons_append, List.nil_append]
          refine oj_nil ?_
          refine ej_pl (lt_y (y_move rfl) rfl (lt_y (y_move rfl) rfl (lt_w (by kernel_rfl) (lt_nil)))) ?_
          refine pl_end (by kernel_rfl) ?_
          refine ej_blk (ej_th ?_)
          refine cj_regionG (gj_step (y_move rfl) rfl rfl rfl (gj_step (y_add rfl rfl (by omega)) rfl rfl rfl (gj_step (y_assign rfl) rfl rfl rfl (gj_nil ?_))))
          rw [show ((t : Nat) : Int) - 1 + 1 = ((t + 1 : Nat) : Int) - 1 by omega]
          exact ej_nx (t + 1, goB (worthP res (rowsV vs)) res.length d1 (so ++ [((t : Int) - 1)]) s2, At3, ct3) (by simp only; omega) ⟨by first | omega | (simp only; omega), hsk⟩ ⟨rfl, rfl, rfl, rfl, trivial⟩
      · have h39b := h39
        try simp only [sxb] at h39
        have hkc : ¬ (((t : Int) - 1) < 0 ∨ so.contains ((t : Int) - 1) = false) := by simpa using h39b
        rw [stK, if_neg hkc] at hsk
        refine cj_skip (ej_blk (ej_th ?_))
        refine cj_regionG (gj_step (y_move rfl) rfl rfl rfl (gj_step (y_add rfl rfl (by omega)) rfl rfl rfl (gj_step (y_assign rfl) rfl rfl rfl (gj_nil ?_))))
        rw [show ((t : Nat) : Int) - 1 + 1 = ((t + 1 : Nat) : Int) - 1 by omega]
        exact ej_nx (t + 1, s2, At2, ct2) (by simp only; omega) ⟨by first | omega | (simp only; omega), hsk⟩ ⟨rfl, rfl, rfl, rfl, trivial⟩
    · have h29b := h29
      try simp only [sxb] at h29
      rw [goK_end (by omega)] at hsk
      subst hsk
      refine cj_exit (ej_then_exit (ej_then_exit (ej_blk_hit ?_)))
      exact ej_end0 rfl Try.results101 (fun w' hp => ⟨(At2, ct2), rfl, hp.givT _⟩)

end Go.Proofs.Ytehmifpofpifkaa
namespace Go.Proofs.Ytehmifpofpifkaa
open Go.Sx Go.RowKit Am
set_option maxRecDepth 20000
theorem k_next (res : List Int) (Ar : Option Addr) (cr : Nat) (vs : List ListV) (Av : Option Addr) (cv : Nat) (fpr fpv fpw : Nat → Prop) (bc bm bt bn : Nat) (hco : CloOk res (rowsV vs)) : ∀ (d : Nat) (so : List Int) (A : Option Addr) (c : Nat) (s : List Int × Int) (At : Option Addr) (ct : Nat) (w : World) (_ : so.length + d = vs.length) (_ : OkL res.length so) (_ : ∀ f ∈ [ownB bm (cellsB 3 [.int .i64 s.2]), ownB bt (cellsB 43 [.slice At s.1.length ct]), ow 3 1 enInt At ct s.1, ow 3 1 enInt A c so], f.P w ∧ ∀ b, f.fp b → b < w.heap.size) (_ : [ownB bm (cellsB 3 [.int .i64 s.2]), ownB bt (cellsB 43 [.slice At s.1.length ct]), ow 3 1 enInt At ct s.1, ow 3 1 enInt A c so].Pairwise (fun f g => ∀ b, f.fp b → ¬ g.fp b)) (_ : ∀ g ∈ [ownB bc (cellsB 117 [.slice Ar res.length cr, .slice Av vs.length cv]), ownB bn (cellsB 140 [.func (.func 101) #[] #[.pointer (some ⟨bc, 0, none⟩), .pointer (some ⟨bm, 0, none⟩), .pointer (some ⟨bt, 0, none⟩), .pointer (some ⟨bn, 0, none⟩)]]), sl fpr 1 enInt Ar res, sl fpv 1 encLs Av vs, rwF fpw vs], g.P w ∧ ∀ i, g.fp i → i < w.heap.size ∧ ∀ f ∈ [ownB bm (cellsB 3 [.int .i64 s.2]), ownB bt (cellsB 43 [.slice At s.1.length ct]), ow 3 1 enInt At ct s.1, ow 3 1 enInt A c so], ¬ f.fp i), Calls Try.prog 101 #[.slice A so.length c, .pointer (some ⟨bc, 0, none⟩), .pointer (some ⟨bm, 0, none⟩), .pointer (some ⟨bt, 0, none⟩), .pointer (some ⟨bn, 0, none⟩)] w (fun e w' => ∃ z : Option Addr × Nat, e = .returned (.tuple #[]) ∧ Giv [ownB bm (cellsB 3 [.int .i64 s.2]), ownB bt (cellsB 43 [.slice At s.1.length ct]), ow 3 1 enInt At ct s.1, ow 3 1 enInt A c so] w w' [ownB bm (cellsB 3 [.int .i64 (goB (worthP res (rowsV vs)) res.length d so s).2]), ownB bt (cellsB 43 [.slice z.1 (goB (worthP res (rowsV vs)) res.length d so s).1.length z.2]), ow 3 1 enInt z.1 z.2 (goB (worthP res (rowsV vs)) res.length d so s).1, ow 3 1 enInt A c so]) := by
  intro d
  induction d with
  | zero => intro so A c s At ct w hd hok hO hap hS; exact k_next1 res Ar cr vs Av cv fpr fpv fpw bc bm bt bn 0 so A c s At ct w hco hd hok hO hap hS (fun d1 h => absurd h (by omega))
  | succ d ih => intro so A c s At ct w hd hok hO hap hS; exact k_next1 res Ar cr vs Av cv fpr fpv fpw bc bm bt bn (d + 1) so A c s At ct w hco hd hok hO hap hS (fun d1 h => by
      have e : d1 = d := by omega
      subst e; exact ih)

theorem k_best (res : List Int) (Ar : Option Addr) (cr : Nat) (vs : List ListV) (Av : Option Addr) (cv : Nat) (w : World) (hres : Rd w 1 enInt Ar res) (hvs : Rd w 1 encLs Av vs) (hgv : ∀ r ∈ vs, GoodL w r) (hco : CloOk res (rowsV vs)) : Calls Try.prog 77 #[.agg #[.slice Ar res.length cr, .slice Av vs.length cv]] w (fun e w' => ∃ B d, e = .returned (.tuple #[.slice B (bestF res (rowsV vs)).1.length d, .int .i64 (bestF res (rowsV vs)).2]) ∧ Grow w w' ∧ (ow 3 1 enInt B d (bestF res (rowsV vs)).1).P w' ∧ ∀ b, (ow 3 1 enInt B d (bestF res (rowsV vs)).1).fp b → w.heap.size ≤ b) := by
  have hlr := hres.len
  have hlv := hvs.len
  have hbf : goB (worthP res (rowsV vs)) res.length vs.length [] ([], -1) = bestF res (rowsV vs) := by unfold bestF; rw [rowsV_len]
  refine enter_pure (args := [.agg #[.slice Ar res.length cr, .slice Av vs.length cv]]) [sl (fun b => b < w.heap.size) 1 enInt Ar res, sl (fun b => b < w.heap.size) 1 encLs Av vs, rwF (fun b => b < w.heap.size) vs] Try.func77 rfl (by rw [Try.ntmps77]; simp) (fun g hg => by
    simp only [List.mem_cons, List.mem_nil_iff, or_false] at hg
    rcases hg with rfl | rfl | rfl
    · exact ⟨hres, fun _ h => h⟩
    · exact ⟨hvs, fun _ h => h⟩
    · exact ⟨hgv, fun _ h => h⟩) ?_
  refine cj_seq (cj_region ?_)
  refine oj_box rfl rfl rfl (fun b1 => ?_)
  refine oj_alloc Try.zeroValue43 rfl rfl (fun b2 => ?_)
  refine oj_alloc Try.zeroValue3 rfl rfl (fun b3 => ?_)
  refine oj_nil ?_
  refine ej_th (cj_seq (cj_region ?_))
  refine oj_store rfl rfl rfl rfl Try.sizeOf3 rfl ?_
  refine oj_nil ?_
  refine ej_th (cj_seq (cj_region ?_))
  refine oj_alloc Try.zeroValue140 rfl rfl (fun b4 => ?_)
  refine oj_nil ?_
  refine ej_th (cj_seq (cj_region ?_))
  refine oj_step (y_makeFunc rfl rfl) rfl rfl rfl ?_
  refine oj_store rfl rfl rfl rfl Try.sizeOf140 rfl ?_
  refine oj_nil ?_
  refine ej_th (cj_seq ?_)
  refine cj_ownNil 3 1 enInt ?_
  refine cj_ownNil 3 1 enInt ?_
  refine cj_region ?_
  refine oj_step (y_load1 Try.isAgg140 rfl rfl) rfl rfl rfl ?_
  refine oj_callL (X := Option Addr × Nat) (fun _ => .tuple #[]) [ownB b3 (cellsB 3 [.int .i64 (([], -1) : List Int × Int).2]), ownB b2 (cellsB 43 [.slice none (([], -1) : List Int × Int).1.length 0]), ow 3 1 enInt none 0 (([], -1) : List Int × Int).1, ow 3 1 enInt none 0 ([] : List Int)] (fun z => [ownB b3 (cellsB 3 [.int .i64 (bestF res (rowsV vs)).2]), ownB b2 (cellsB 43 [.slice z.1 (bestF res (rowsV vs)).1.length z.2]), ow 3 1 enInt z.1 z.2 (bestF res (rowsV vs)).1, ow 3 1 enInt none 0 ([] : List Int)]) Try.call101 rfl rfl (fun w1 hp => by
    have hT : Takes [ow 3 1 enInt none 0 ([] : List Int), ow 3 1 enInt none 0 ([] : List Int), ownB b4 (cellsB 140 [.func (.func 101) #[] #[.pointer (some ⟨b1, 0, none⟩), .pointer (some ⟨b3, 0, none⟩), .pointer (some ⟨b2, 0, none⟩), .pointer (some ⟨b4, 0, none⟩)]]), ownB b3 (cellsB 3 [.int .i64 (-1)]), ownB b2 (cellsB 43 [.slice none 0 0]), ownB b1 (cellsB 117 [.slice Ar res.length cr, .slice Av vs.length cv])] [ownB b3 (cellsB 3 [.int .i64 (([], -1) : List Int × Int).2]), ownB b2 (cellsB 43 [.slice none (([], -1) : List Int × Int).1.length 0]), ow 3 1 enInt none 0 (([], -1) : List Int × Int).1, ow 3 1 enInt none 0 ([] : List Int)] [ownB b4 (cellsB 140 [.func (.func 101) #[] #[.pointer (some ⟨b1, 0, none⟩), .pointer (some ⟨b3, 0, none⟩), .pointer (some ⟨b2, 0, none⟩), .pointer (some ⟨b4, 0, none⟩)]]), ownB b1 (cellsB 117 [.slice Ar res.length cr, .slice Av vs.length cv])] := inferInstance
    obtain ⟨q1, q2, q3⟩ := hp.ownL hT
    have q4 := hp.ownR hT
    have h9 := k_next res Ar cr vs Av cv (fun b => b < w.heap.size) (fun b => b < w.heap.size) (fun b => b < w.heap.size) b1 b3 b2 b4 hco vs.length [] none 0 ([], -1) none 0 w1 (by simp) (OkL.nil _) q1 q2 (fun g hg => by
      simp only [List.mem_cons, List.mem_nil_iff, or_false] at hg
      rcases hg with rfl | rfl | rfl | rfl | rfl
      · exact q4 _ (.tail _ (.head _))
      · exact q4 _ (.head _)
      · exact q3 _ (.head _)
      · exact q3 _ (.tail _ (.head _))
      · exact q3 _ (.tail _ (.tail _ (.head _))))
    rw [hbf] at h9
    exact h9) rfl (fun z => ?_)
  obtain ⟨B7, c7⟩ := z
  dsimp only [List.cons_append, List.nil_append]
  refine oj_nil ?_
  refine ej_th (cj_seq ?_)
  refine cj_plan 4 (by kernel_rfl) (by kernel_rfl) ?_
  refine pl_y 0 rfl (y_load1 Try.isAgg43 rfl rfl) rfl rfl rfl rfl (by kernel_rfl) ?_
  refine pl_y 1 rfl (y_load1 Try.isAgg3 rfl rfl) rfl rfl rfl rfl (by kernel_rfl) ?_
  refine pl_w1 2 (by kernel_rfl) rfl rfl (pl_fire rfl rfl rfl (by kernel_rfl) ?_)
  refine oj_store rfl rfl rfl rfl Try.sizeOf43 rfl ?_
  refine oj_nil ?_
  refine ej_pl (lt_y (y_load1 Try.isAgg3 rfl rfl) rfl (lt_w (by kernel_rfl) (lt_nil))) ?_
  refine pl_w1 3 (by kernel_rfl) rfl rfl (pl_fire rfl rfl rfl (by kernel_rfl) ?_)
  refine oj_store rfl rfl rfl rfl Try.sizeOf3 rfl ?_
  refine oj_nil ?_
  refine ej_pl (lt_w (by kernel_rfl) (lt_w (by kernel_rfl) (lt_nil))) ?_
  refine pl_end (by kernel_rfl) ?_
  refine ej_th (cj_ret ?_)
  exact ej_retCC rfl Try.results77 rfl (y_load1 Try.isAgg43 rfl rfl) rfl (y_load1 Try.isAgg3 rfl rfl) (fun w' hp => ⟨B7, c7, rfl, hp.below, (hp.own (ow 3 1 enInt B7 c7 (bestF res (rowsV vs)).1) (.tail _ (.tail _ (.head _)))).1, fun b hb => Nat.le_of_not_lt ((hp.own (ow 3 1 enInt B7 c7 (bestF res (rowsV vs)).1) (.tail _ (.tail _ (.head _)))).2 b hb).2⟩)

end Go.Proofs.Ytehmifpofpifkaa
