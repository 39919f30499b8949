/- Texts of ours, joined: 3 of them. Conditions: none. -/
import Derived.Test.YtomidcehahdmbaaGreatXVaultSuspects0
import Derived.Test.YtomidcehahdmbaaGreatProg
import Derived.Laws.StructEq
namespace Go.Proofs.YtomidcehahdmbaaGreat
open Go.Sx Go.RowKit Vm
set_option maxRecDepth 20000
theorem k_rPlayB (s : StrV) (l : List CarryV) (A : Option Addr) (cc : Nat) (w : World) (hs : StrRd w s) (hl : Rd w 8 encCa A l) (h0 : playE s.s l ≠ 0) : Calls Tryz.prog 6 #[.agg #[.slice s.Ar s.rooms.length s.cr, .slice s.Ag s.gates.length s.cg, .slice s.As s.staff.length s.cs], .slice A l.length cc] w (fun e w' => e = .returned (.tuple #[.agg ((playB s.s l).flatMap encBa).toArray, .int .i64 ((playAt s.s l) : Nat), .int .i64 (playE s.s l)]) ∧ Grow w w') := by
  refine enter_pure (args := [.agg #[.slice s.Ar s.rooms.length s.cr, .slice s.Ag s.gates.length s.cg, .slice s.As s.staff.length s.cs], .slice A l.length cc]) [sl (fun b => b < w.heap.size) 3 encRo s.Ar s.rooms, sl (fun b => b < w.heap.size) 4 encGa s.Ag s.gates, sl (fun b => b < w.heap.size) 1 enInt s.As s.staff, sl (fun b => b < w.heap.size) 8 encCa A l] Tryz.func6 rfl (by rw [Tryz.ntmps6]; simp) (fun g hg => by simp at hg; rcases hg with rfl | rfl | rfl | rfl; exact ⟨hs.rooms, fun _ h => h⟩; exact ⟨hs.gates, fun _ h => h⟩; exact ⟨hs.staff, fun _ h => h⟩; exact ⟨hl, fun _ h => h⟩) ?_
  refine cj_seq (cj_region ?_)
  refine oj_box rfl rfl rfl (fun b2 => ?_)
  refine oj_alloc Tryz.zeroValue31 rfl rfl (fun b4 => ?_)
  refine oj_step (y_assign rfl) rfl rfl rfl ?_
  refine oj_step (y_assign rfl) rfl rfl rfl ?_
  refine oj_nil ?_
  refine ej_th (cj_seq (cj_region ?_))
  refine oj_alloc Tryz.zeroValue31 rfl rfl (fun b7 => ?_)
  refine oj_nil ?_
  refine ej_th (cj_seq ?_)
  refine cj_eqO [ownB b7 (cellsB 31 ((bags0).flatMap encBa)), ownB b4 (cellsB 31 ((bags0).flatMap encBa)), ownB b2 (cellsB 26 [.slice s.Ar s.rooms.length s.cr, .slice s.Ag s.gates.length s.cg, .slice s.As s.staff.length s.cs])] rfl ?_
  refine cj_regionG ?_
  refine gj_step (y_loadN Tryz.isAgg26 Tryz.sizeOf26 rfl) rfl rfl rfl (gj_step (y_move rfl) rfl rfl rfl (?_))
  refine gj_step (y_call Tryz.call16 rfl (fun w hp => k_playB s l A cc 36500 w (hs.mono hp.below) hp.rd (by rw [(day_all s.s l).1]; exact h0))) rfl rfl rfl ?_
  refine gj_step (y_move rfl) rfl rfl rfl (gj_step (y_extract rfl rfl) rfl rfl rfl (gj_step (y_extract rfl rfl) rfl rfl rfl (gj_step (y_extract rfl rfl) rfl rfl rfl (gj_step (y_assign rfl) rfl rfl rfl (gj_step (y_assign rfl) rfl rfl rfl (gj_step (y_assign rfl) rfl rfl rfl (?_)))))))
  refine gj_nil ?_
  refine ej_th (cj_seq (cj_seq ?_))
  rw [(day_all s.s l).1, (day_all s.s l).2]
  refine cj_regionG (gj_step (y_move rfl) rfl rfl rfl (gj_step (y_neq rfl rfl) rfl rfl rfl (gj_nil ?_)))
  refine ej_th ?_
  refine cj_cond rfl (fun h20 => ?_) (fun h20 => ?_)
  · have h20b := h20
    try simp only [sxb] at h20
    refine cj_seq (cj_region ?_)
    refine oj_step (y_loadN (hv := tk_all _ (bf_len rfl)) Tryz.isAgg31 Tryz.sizeOf31 rfl) rfl rfl rfl ?_
    refine oj_step (y_move rfl) rfl rfl rfl ?_
    refine oj_step (y_move rfl) rfl rfl rfl ?_
    refine oj_store (vs := ((bags0).flatMap encBa)) (n := 160) (hset := set_all _ _ rfl) rfl rfl rfl (bf_one _) Tryz.sizeOf31 (bf_len rfl) ?_
    refine oj_step (y_assign rfl) rfl rfl rfl ?_
    refine oj_step (y_assign rfl) rfl rfl rfl ?_
    refine oj_nil ?_
    refine ej_th (cj_ret (ej_then_ret ?_))
    exact ej_retC3 rfl Tryz.results6 rfl (y_loadN (hv := tk_all _ (bf_len rfl)) Tryz.isAgg31 Tryz.sizeOf31 rfl) rfl rfl (fun w' hp => ⟨by rw [play_err h0], hp.below⟩)
  · exact absurd (by simpa using h20) h0

theorem k_rPlayO (s : StrV) (l : List CarryV) (A : Option Addr) (cc : Nat) (w : World) (hs : StrRd w s) (hl : Rd w 8 encCa A l) (h0 : playE s.s l = 0) : Calls Tryz.prog 6 #[.agg #[.slice s.Ar s.rooms.length s.cr, .slice s.Ag s.gates.length s.cg, .slice s.As s.staff.length s.cs], .slice A l.length cc] w (fun e w' => e = .returned (.tuple #[.agg ((playB s.s l).flatMap encBa).toArray, .int .i64 ((playAt s.s l) : Nat), .int .i64 (playE s.s l)]) ∧ Grow w w') := by
  obtain ⟨hb, hlb, hl64⟩ := play_0 h0
  have hua := upto_all hlb
  have hbe : (hrun l (uptoN l 36500)).st.bags = playB s.s l := by rw [hua]; exact hrun_play h0
  have hl32 : (hrun l (uptoN l 36500)).st.bags.length = 32 := by rw [hbe]; exact playB_len _
  have hpl := playB_len (s := s.s) l
  refine enter_pure (args := [.agg #[.slice s.Ar s.rooms.length s.cr, .slice s.Ag s.gates.length s.cg, .slice s.As s.staff.length s.cs], .slice A l.length cc]) [sl (fun b => b < w.heap.size) 3 encRo s.Ar s.rooms, sl (fun b => b < w.heap.size) 4 encGa s.Ag s.gates, sl (fun b => b < w.heap.size) 1 enInt s.As s.staff, sl (fun b => b < w.heap.size) 8 encCa A l] Tryz.func6 rfl (by rw [Tryz.ntmps6]; simp) (fun g hg => by simp at hg; rcases hg with rfl | rfl | rfl | rfl; exact ⟨hs.rooms, fun _ h => h⟩; exact ⟨hs.gates, fun _ h => h⟩; exact ⟨hs.staff, fun _ h => h⟩; exact ⟨hl, fun _ h => h⟩) ?_
  refine cj_seq (cj_region ?_)
  refine oj_box rfl rfl rfl (fun b2 => ?_)
  refine oj_alloc Tryz.zeroValue31 rfl rfl (fun b4 => ?_)
  refine oj_step (y_assign rfl) rfl rfl rfl ?_
  refine oj_step (y_assign rfl) rfl rfl rfl ?_
  refine oj_nil ?_
  refine ej_th (cj_seq (cj_region ?_))
  refine oj_alloc Tryz.zeroValue31 rfl rfl (fun b7 => ?_)
  refine oj_nil ?_
  refine ej_th (cj_seq ?_)
  refine cj_eqO [ownB b7 (cellsB 31 ((bags0).flatMap encBa)), ownB b4 (cellsB 31 ((bags0).flatMap encBa)), ownB b2 (cellsB 26 [.slice s.Ar s.rooms.length s.cr, .slice s.Ag s.gates.length s.cg, .slice s.As s.staff.length s.cs])] rfl ?_
  refine cj_region ?_
  refine oj_step (y_loadN Tryz.isAgg26 Tryz.sizeOf26 rfl) rfl rfl rfl ?_
  refine oj_step (y_move rfl) rfl rfl rfl ?_
  refine oj_callL (X := HA) (fun z => .tuple #[.pointer (some ⟨z.b, 0, none⟩), .int .i64 (l.length : Nat), .int .i64 (0)]) [] (fun z => [ownB z.b (cellsB 56 [.slice s.Ar s.rooms.length s.cr, .slice s.Ag s.gates.length s.cg, .slice s.As s.staff.length s.cs, .slice z.Ab 32 z.cb, .slice z.Ae (hrun l (uptoN l 36500)).ever.length z.ce, .slice z.As (hrun l (uptoN l 36500)).st.seals.length z.cs, .slice z.An 32 z.cn]), ow 30 5 encBa z.Ab z.cb (hrun l (uptoN l 36500)).st.bags, ow 3 1 enInt z.Ae z.ce (hrun l (uptoN l 36500)).ever, ow 3 1 enInt z.As z.cs (hrun l (uptoN l 36500)).st.seals, ow 3 1 enInt z.An z.cn (hrun l (uptoN l 36500)).since]) Tryz.call16 rfl rfl (fun w1 hp => k_playO s l A cc 36500 w1 (hs.mono hp.below) hp.rd (by rw [(day_all s.s l).1]; exact h0)) rfl (fun a => ?_)
  dsimp only [List.cons_append, List.nil_append]
  refine oj_step (y_move rfl) rfl rfl rfl ?_
  refine oj_step (y_extract rfl rfl) rfl rfl rfl ?_
  refine oj_step (y_extract rfl rfl) rfl rfl rfl ?_
  refine oj_step (y_extract rfl rfl) rfl rfl rfl ?_
  refine oj_step (y_assign rfl) rfl rfl rfl ?_
  refine oj_step (y_assign rfl) rfl rfl rfl ?_
  refine oj_step (y_assign rfl) rfl rfl rfl ?_
  refine oj_nil ?_
  refine ej_th (cj_seq (cj_seq ?_))
  refine cj_regionG (gj_step (y_move rfl) rfl rfl rfl (gj_step (y_neq rfl rfl) rfl rfl rfl (gj_nil ?_)))
  refine ej_th ?_
  refine cj_cond rfl (fun h20 => ?_) (fun h20 => ?_)
  · exact absurd h20 (by decide)
  · have h20b := h20
    try simp only [sxb] at h20
    refine cj_skip (ej_th (cj_seq (cj_seq ?_)))
    refine cj_regionG (gj_step (y_assign rfl) rfl rfl rfl (gj_nil ?_))
    refine ej_th (cj_block ?_)
    refine cj_eqO [ownB a.b (cellsB 56 [.slice s.Ar s.rooms.length s.cr, .slice s.Ag s.gates.length s.cg, .slice s.As s.staff.length s.cs, .slice a.Ab 32 a.cb, .slice a.Ae (hrun l (uptoN l 36500)).ever.length a.ce, .slice a.As (hrun l (uptoN l 36500)).st.seals.length a.cs, .slice a.An 32 a.cn]), ow 30 5 encBa a.Ab a.cb (hrun l (uptoN l 36500)).st.bags, ow 3 1 enInt a.Ae a.ce (hrun l (uptoN l 36500)).ever, ow 3 1 enInt a.As a.cs (hrun l (uptoN l 36500)).st.seals, ow 3 1 enInt a.An a.cn (hrun l (uptoN l 36500)).since, ownB b7 (cellsB 31 (((mixB (hrun l (uptoN l 36500)).st.bags bags0 0)).flatMap encBa)), ownB b4 (cellsB 31 ((bags0).flatMap encBa)), ownB b2 (cellsB 26 [.slice s.Ar s.rooms.length s.cr, .slice s.Ag s.gates.length s.cg, .slice s.As s.staff.length s.cs])] rfl ?_
    refine cj_lpi (X := Nat) [(4, _), (5, _), (6, _), (7, _), (8, _), (9, _)] (fun i => i ≤ 32) (fun i => [(11, .int .i64 (i : Nat))]) (fun i => [ownB a.b (cellsB 56 [.slice s.Ar s.rooms.length s.cr, .slice s.Ag s.gates.length s.cg, .slice s.As s.staff.length s.cs, .slice a.Ab 32 a.cb, .slice a.Ae (hrun l (uptoN l 36500)).ever.length a.ce, .slice a.As (hrun l (uptoN l 36500)).st.seals.length a.cs, .slice a.An 32 a.cn]), ow 30 5 encBa a.Ab a.cb (hrun l (uptoN l 36500)).st.bags, ow 3 1 enInt a.Ae a.ce (hrun l (uptoN l 36500)).ever, ow 3 1 enInt a.As a.cs (hrun l (uptoN l 36500)).st.seals, ow 3 1 enInt a.An a.cn (hrun l (uptoN l 36500)).since, ownB b7 (cellsB 31 (((mixB (hrun l (uptoN l 36500)).st.bags bags0 i)).flatMap encBa)), ownB b4 (cellsB 31 ((bags0).flatMap encBa)), ownB b2 (cellsB 26 [.slice s.Ar s.rooms.length s.cr, .slice s.Ag s.gates.length s.cg, .slice s.As s.staff.length s.cs])]) (fun i => [sl (fun b => b < w.heap.size) 3 encRo s.Ar s.rooms, sl (fun b => b < w.heap.size) 4 encGa s.Ag s.gates, sl (fun b => b < w.heap.size) 1 enInt s.As s.staff, sl (fun b => b < w.heap.size) 8 encCa A l]) (fun i => 32 - i) 0 (by omega) ⟨rfl, rfl, rfl, rfl, rfl, rfl, rfl, trivial⟩ ?_
    rintro i hi
    dsimp only [List.cons_append, List.nil_append]
    refine cj_seq (cj_seq ?_)
    refine cj_regionG (gj_step (y_move rfl) rfl rfl rfl (gj_step (y_lss rfl rfl) rfl rfl rfl (gj_nil ?_)))
    refine ej_th ?_
    refine cj_cond rfl (fun h25 => ?_) (fun h25 => ?_)
    · have h25b := h25
      try simp only [sxb] at h25
      obtain ⟨x, hx⟩ : ∃ x, (hrun l (uptoN l 36500)).st.bags[i]? = some x := ⟨_, List.getElem?_eq_getElem (by omega)⟩
      refine cj_skip (ej_th (cj_seq (cj_block (cj_region ?_))))
      refine oj_step (y_move rfl) rfl rfl rfl ?_
      refine oj_step (y_move rfl) rfl rfl rfl ?_
      refine oj_step (y_nil rfl) rfl rfl rfl ?_
      refine oj_step (y_fa fa56_1 rfl) rfl rfl rfl ?_
      refine oj_step (y_load1 Tryz.isAgg54 rfl rfl) rfl rfl rfl ?_
      refine oj_step (y_move rfl) rfl rfl rfl ?_
      refine oj_step (y_ixRm (m := 32) (xs := (hrun l (uptoN l 36500)).st.bags) hl32.symm (reads_ow enBa_len) Tryz.underlying54 Tryz.sizeOf30 rfl rfl ⟨by omega, by omega⟩) rfl rfl rfl ?_
      refine oj_step (y_ldW (reads_ow enBa_len) Tryz.isAgg30 Tryz.sizeOf30 rfl hx (fun _ => rfl)) rfl rfl rfl ?_
      refine oj_step (y_ixArr Tryz.underlying31 Tryz.sizeOf30 rfl rfl (by omega)) rfl rfl rfl ?_
      refine oj_store (vs := encBa x) (n := 5) (hset := set_at (mix_len hl32 rfl (by omega)) (n := ((i : Nat) : Int)) (by omega) _) rfl rfl rfl rfl Tryz.sizeOf30 rfl ?_
      refine oj_nil ?_
      refine ej_blk (ej_th ?_)
      refine cj_regionG (gj_step (y_move rfl) rfl rfl rfl (gj_step (y_add rfl rfl (by omega)) rfl rfl rfl (gj_step (y_assign rfl) rfl rfl rfl (gj_nil ?_))))
      rw [show ((i : Nat) : Int).toNat = i from rfl, mix_set hl32 rfl hx]
      exact ej_nx (i + 1) (by omega) (by omega) ⟨rfl, rfl, rfl, rfl, rfl, rfl, rfl, trivial⟩
    · have h25b := h25
      try simp only [sxb] at h25
      have hie : i = 32 := by omega
      subst hie
      rw [mix_end hl32 rfl, hbe]
      refine cj_exit (ej_then_exit (ej_then_exit (ej_blk_hit (ej_th (cj_seq (cj_region ?_))))))
      refine oj_step (y_loadN (hv := tk_all _ (bf_len hpl)) Tryz.isAgg31 Tryz.sizeOf31 rfl) rfl rfl rfl ?_
      refine oj_step (y_move rfl) rfl rfl rfl ?_
      refine oj_store (vs := ((playB s.s l).flatMap encBa)) (n := 160) (hset := set_all _ _ (by rw [bf_len hpl]; rfl)) rfl rfl rfl (bf_one _) Tryz.sizeOf31 (bf_len hpl) ?_
      refine oj_step (y_assign rfl) rfl rfl rfl ?_
      refine oj_step (y_assign rfl) rfl rfl rfl ?_
      refine oj_nil ?_
      refine ej_th (cj_ret ?_)
      exact ej_retC3 rfl Tryz.results6 rfl (y_loadN (hv := tk_all _ (bf_len hpl)) Tryz.isAgg31 Tryz.sizeOf31 rfl) rfl rfl (fun w' hp => ⟨by rw [(play_run h0).2.2, h0], hp.below⟩)

theorem k_rPlay (s : StrV) (l : List CarryV) (A : Option Addr) (cc : Nat) (w : World) (hs : StrRd w s) (hl : Rd w 8 encCa A l) : Calls Tryz.prog 6 #[.agg #[.slice s.Ar s.rooms.length s.cr, .slice s.Ag s.gates.length s.cg, .slice s.As s.staff.length s.cs], .slice A l.length cc] w (fun e w' => e = .returned (.tuple #[.agg ((playB s.s l).flatMap encBa).toArray, .int .i64 ((playAt s.s l) : Nat), .int .i64 (playE s.s l)]) ∧ Grow w w') := by
  by_cases h : playE s.s l = 0
  · exact k_rPlayO s l A cc w hs hl h
  · exact k_rPlayB s l A cc w hs hl h

theorem k_rWhereB (s : StrV) (l : List CarryV) (A : Option Addr) (cc : Nat) (bag day : Int) (w : World) (hs : StrRd w s) (hl : Rd w 8 encCa A l) (h0 : playE s.s l ≠ 0) : Calls Tryz.prog 8 #[.agg #[.slice s.Ar s.rooms.length s.cr, .slice s.Ag s.gates.length s.cg, .slice s.As s.staff.length s.cs], .slice A l.length cc, .int .i64 bag, .int .i64 day] w (fun e w' => e = .returned (.tuple #[.int .i64 (whereR s.s l bag day), .int .i64 (whereE s.s l bag day)]) ∧ Grow w w') := by
  refine enter_pure (args := [.agg #[.slice s.Ar s.rooms.length s.cr, .slice s.Ag s.gates.length s.cg, .slice s.As s.staff.length s.cs], .slice A l.length cc, .int .i64 bag, .int .i64 day]) [sl (fun b => b < w.heap.size) 3 encRo s.Ar s.rooms, sl (fun b => b < w.heap.size) 4 encGa s.Ag s.gates, sl (fun b => b < w.heap.size) 1 enInt s.As s.staff, sl (fun b => b < w.heap.size) 8 encCa A l] Tryz.func8 rfl (by rw [Tryz.ntmps8]; simp) (fun g hg => by simp at hg; rcases hg with rfl | rfl | rfl | rfl; exact ⟨hs.rooms, fun _ h => h⟩; exact ⟨hs.gates, fun _ h => h⟩; exact ⟨hs.staff, fun _ h => h⟩; exact ⟨hl, fun _ h => h⟩) ?_
  refine cj_seq (cj_region ?_)
  refine oj_box rfl rfl rfl (fun b4 => ?_)
  refine oj_step (y_assign rfl) rfl rfl rfl ?_
  refine oj_step (y_assign rfl) rfl rfl rfl ?_
  refine oj_nil ?_
  refine ej_th (cj_seq (cj_seq ?_))
  refine cj_regionG ?_
  refine gj_step (y_loadN Tryz.isAgg26 Tryz.sizeOf26 rfl) rfl rfl rfl (gj_step (y_move rfl) rfl rfl rfl (?_))
  refine gj_step (y_call Tryz.call16 rfl (fun w hp => k_playB s l A cc 36500 w (hs.mono hp.below) hp.rd (by rw [(day_all s.s l).1]; exact h0))) rfl rfl rfl ?_
  refine gj_step (y_move rfl) rfl rfl rfl (gj_step (y_extract rfl rfl) rfl rfl rfl (gj_step (y_extract rfl rfl) rfl rfl rfl (gj_step (y_extract rfl rfl) rfl rfl rfl (gj_step (y_assign rfl) rfl rfl rfl (gj_step (y_assign rfl) rfl rfl rfl (gj_step (y_assign rfl) rfl rfl rfl (?_)))))))
  refine gj_nil ?_
  refine ej_th (cj_seq ?_)
  rw [(day_all s.s l).1, (day_all s.s l).2]
  refine cj_regionG (gj_step (y_move rfl) rfl rfl rfl (gj_step (y_neq rfl rfl) rfl rfl rfl (gj_nil ?_)))
  refine ej_th ?_
  refine cj_cond rfl (fun h24 => ?_) (fun h24 => ?_)
  · have h24b := h24
    try simp only [sxb] at h24
    have hE : whereE s.s l bag day = playE s.s l := by rw [whereE, if_neg h24]
    have hR : whereR s.s l bag day = 0 := by rw [whereR, hE, if_neg h24]
    refine cj_seq ?_
    refine cj_regionG (gj_step (y_move rfl) rfl rfl rfl (gj_step (y_assign rfl) rfl rfl rfl (gj_step (y_assign rfl) rfl rfl rfl (gj_nil ?_))))
    refine ej_th (cj_ret (ej_then_ret ?_))
    exact ej_ret2 rfl Tryz.results8 rfl rfl (fun w' hp => ⟨by rw [hE, hR], hp.below⟩)
  · exact absurd (by simpa using h24) h0

theorem k_rWhereO (s : StrV) (l : List CarryV) (A : Option Addr) (cc : Nat) (bag day : Int) (w : World) (hs : StrRd w s) (hl : Rd w 8 encCa A l) (h0 : playE s.s l = 0) : Calls Tryz.prog 8 #[.agg #[.slice s.Ar s.rooms.length s.cr, .slice s.Ag s.gates.length s.cg, .slice s.As s.staff.length s.cs], .slice A l.length cc, .int .i64 bag, .int .i64 day] w (fun e w' => e = .returned (.tuple #[.int .i64 (whereR s.s l bag day), .int .i64 (whereE s.s l bag day)]) ∧ Grow w w') := by
  obtain ⟨hb, hlb, hl64⟩ := play_0 h0
  have hul := upto_le l day
  have hok2 := hrun_ok h0 (uptoN l day) hul
  have hl32 := hok2.inv.len
  refine enter_pure (args := [.agg #[.slice s.Ar s.rooms.length s.cr, .slice s.Ag s.gates.length s.cg, .slice s.As s.staff.length s.cs], .slice A l.length cc, .int .i64 bag, .int .i64 day]) [sl (fun b => b < w.heap.size) 3 encRo s.Ar s.rooms, sl (fun b => b < w.heap.size) 4 encGa s.Ag s.gates, sl (fun b => b < w.heap.size) 1 enInt s.As s.staff, sl (fun b => b < w.heap.size) 8 encCa A l] Tryz.func8 rfl (by rw [Tryz.ntmps8]; simp) (fun g hg => by simp at hg; rcases hg with rfl | rfl | rfl | rfl; exact ⟨hs.rooms, fun _ h => h⟩; exact ⟨hs.gates, fun _ h => h⟩; exact ⟨hs.staff, fun _ h => h⟩; exact ⟨hl, fun _ h => h⟩) ?_
  refine cj_seq (cj_region ?_)
  refine oj_box rfl rfl rfl (fun b4 => ?_)
  refine oj_step (y_assign rfl) rfl rfl rfl ?_
  refine oj_step (y_assign rfl) rfl rfl rfl ?_
  refine oj_nil ?_
  refine ej_th (cj_seq (cj_seq (cj_region ?_)))
  refine oj_step (y_loadN Tryz.isAgg26 Tryz.sizeOf26 rfl) rfl rfl rfl ?_
  refine oj_step (y_move rfl) rfl rfl rfl ?_
  refine oj_callL (X := HA) (fun z => .tuple #[.pointer (some ⟨z.b, 0, none⟩), .int .i64 (l.length : Nat), .int .i64 (0)]) [] (fun z => [ownB z.b (cellsB 56 [.slice s.Ar s.rooms.length s.cr, .slice s.Ag s.gates.length s.cg, .slice s.As s.staff.length s.cs, .slice z.Ab 32 z.cb, .slice z.Ae (hrun l (uptoN l 36500)).ever.length z.ce, .slice z.As (hrun l (uptoN l 36500)).st.seals.length z.cs, .slice z.An 32 z.cn]), ow 30 5 encBa z.Ab z.cb (hrun l (uptoN l 36500)).st.bags, ow 3 1 enInt z.Ae z.ce (hrun l (uptoN l 36500)).ever, ow 3 1 enInt z.As z.cs (hrun l (uptoN l 36500)).st.seals, ow 3 1 enInt z.An z.cn (hrun l (uptoN l 36500)).since]) Tryz.call16 rfl rfl (fun w1 hp => k_playO s l A cc 36500 w1 (hs.mono hp.below) hp.rd (by rw [(day_all s.s l).1]; exact h0)) rfl (fun a => ?_)
  dsimp only [List.cons_append, List.nil_append]
  refine oj_step (y_move rfl) rfl rfl rfl ?_
  refine oj_step (y_extract rfl rfl) rfl rfl rfl ?_
  refine oj_step (y_extract rfl rfl) rfl rfl rfl ?_
  refine oj_step (y_extract rfl rfl) rfl rfl rfl ?_
  refine oj_step (y_assign rfl) rfl rfl rfl ?_
  refine oj_step (y_assign rfl) rfl rfl rfl ?_
  refine oj_step (y_assign rfl) rfl rfl rfl ?_
  refine oj_nil ?_
  refine ej_th (cj_seq ?_)
  refine cj_regionG (gj_step (y_move rfl) rfl rfl rfl (gj_step (y_neq rfl rfl) rfl rfl rfl (gj_nil ?_)))
  refine ej_th ?_
  refine cj_cond rfl (fun h24 => ?_) (fun h24 => ?_)
  · exact absurd h24 (by decide)
  · have h24b := h24
    try simp only [sxb] at h24
    refine cj_skip (ej_th (cj_seq (cj_seq ?_)))
    refine cj_regionG ?_
    refine gj_step (y_move rfl) rfl rfl rfl (?_)
    refine gj_step (y_call Tryz.call20 rfl (fun w hp => k_From _ _ _ w)) rfl rfl rfl ?_
    refine gj_step (y_not rfl) rfl rfl rfl (gj_step (y_move rfl) rfl rfl rfl (?_))
    refine gj_g 3 29 32 rfl rfl rfl rfl (fun hg29 => gj_yes rfl rfl rfl (y_move rfl) rfl rfl (gj_yes rfl rfl rfl (y_call Tryz.call20 rfl (fun w hp => k_From _ _ _ w)) rfl rfl (gj_yes rfl rfl rfl (y_not rfl) rfl rfl (gj_nil rfl)))) ?_
    refine gj_step (y_or rfl rfl rfl) rfl rfl rfl (?_)
    refine gj_nil ?_
    refine ej_th ?_
    refine cj_cond rfl (fun h33 => ?_) (fun h33 => ?_)
    · have h33b := h33
      try simp only [sxb] at h33
      have hE : whereE s.s l bag day = 7 := by
        rw [whereE, if_pos h0, if_neg]
        intro h9
        rw [Bool.and_eq_true] at h9
        rw [h9.1, h9.2] at h33b; cases h33b
      have hR : whereR s.s l bag day = 0 := by rw [whereR, hE, if_neg (by decide)]
      refine cj_seq ?_
      refine cj_regionG (gj_step (y_assign rfl) rfl rfl rfl (gj_step (y_assign rfl) rfl rfl rfl (gj_nil ?_)))
      refine ej_th (cj_ret (ej_then_ret ?_))
      exact ej_ret2 rfl Tryz.results8 rfl rfl (fun w' hp => ⟨by rw [hE, hR], hp.below⟩)
    · have h33b := h33
      try simp only [sxb] at h33
      rw [Bool.or_eq_false_iff] at h33b
      have hb1 := not_f h33b.1
      have hb2 := not_f h33b.2
      have hbg := btw_t.1 hb1
      have hE : whereE s.s l bag day = 0 := by rw [whereE, if_pos h0, if_pos (by rw [hb1, hb2]; rfl)]
      have hx := bagAt_get hok2.inv hbg
      have hR : whereR s.s l bag day = (bagAt (hrun l (uptoN l day)).st bag).room := by rw [whereR, if_pos hE, hrun_room h0 hul bag]; rfl
      refine cj_skip (ej_th (cj_seq (cj_region ?_)))
      refine oj_step (y_loadN Tryz.isAgg26 Tryz.sizeOf26 rfl) rfl rfl rfl ?_
      refine oj_step (y_move rfl) rfl rfl rfl ?_
      refine oj_step (y_move rfl) rfl rfl rfl ?_
      refine oj_callL (X := HA) (fun z => .tuple #[.pointer (some ⟨z.b, 0, none⟩), .int .i64 (l.length : Nat), .int .i64 (0)]) [] (fun z => [ownB z.b (cellsB 56 [.slice s.Ar s.rooms.length s.cr, .slice s.Ag s.gates.length s.cg, .slice s.As s.staff.length s.cs, .slice z.Ab 32 z.cb, .slice z.Ae (hrun l (uptoN l day)).ever.length z.ce, .slice z.As (hrun l (uptoN l day)).st.seals.length z.cs, .slice z.An 32 z.cn]), ow 30 5 encBa z.Ab z.cb (hrun l (uptoN l day)).st.bags, ow 3 1 enInt z.Ae z.ce (hrun l (uptoN l day)).ever, ow 3 1 enInt z.As z.cs (hrun l (uptoN l day)).st.seals, ow 3 1 enInt z.An z.cn (hrun l (uptoN l day)).since]) Tryz.call16 rfl rfl (fun w1 hp => k_playO s l A cc day w1 (hs.mono hp.below) hp.rd (day_part h0 _)) rfl (fun d => ?_)
      dsimp only [List.cons_append, List.nil_append]
      refine oj_step (y_move rfl) rfl rfl rfl ?_
      refine oj_step (y_extract rfl rfl) rfl rfl rfl ?_
      refine oj_step (y_extract rfl rfl) rfl rfl rfl ?_
      refine oj_step (y_extract rfl rfl) rfl rfl rfl ?_
      refine oj_step (y_assign rfl) rfl rfl rfl ?_
      refine oj_step (y_assign rfl) rfl rfl rfl ?_
      refine oj_step (y_assign rfl) rfl rfl rfl ?_
      refine oj_nil ?_
      refine ej_th (cj_seq ?_)
      refine cj_regionG (gj_step (y_move rfl) rfl rfl rfl (gj_step (y_nil rfl) rfl rfl rfl (gj_step (y_fa fa56_1 rfl) rfl rfl rfl (gj_step (y_load1 Tryz.isAgg54 rfl rfl) rfl rfl rfl (gj_step (y_move rfl) rfl rfl rfl (gj_step (y_ixRm (m := 32) (xs := (hrun l (uptoN l day)).st.bags) hl32.symm (reads_ow enBa_len) Tryz.underlying54 Tryz.sizeOf30 rfl rfl ⟨by omega, by omega⟩) rfl rfl rfl (gj_step (y_faE fa30_0 rfl) rfl rfl rfl (gj_step (y_ld1 (reads_ow enBa_len) Tryz.isAgg3 rfl hx rfl) rfl rfl rfl (gj_step (y_assign rfl) rfl rfl rfl (gj_step (y_assign rfl) rfl rfl rfl (gj_nil ?_)))))))))))
      refine ej_th (cj_ret ?_)
      exact ej_ret2 rfl Tryz.results8 rfl rfl (fun w' hp => ⟨by rw [hE, hR], hp.below⟩)

theorem k_rWhere (s : StrV) (l : List CarryV) (A : Option Addr) (cc : Nat) (bag day : Int) (w : World) (hs : StrRd w s) (hl : Rd w 8 encCa A l) : Calls Tryz.prog 8 #[.agg #[.slice s.Ar s.rooms.length s.cr, .slice s.Ag s.gates.length s.cg, .slice s.As s.staff.length s.cs], .slice A l.length cc, .int .i64 bag, .int .i64 day] w (fun e w' => e = .returned (.tuple #[.int .i64 (whereR s.s l bag day), .int .i64 (whereE s.s l bag day)]) ∧ Grow w w') := by
  by_cases h : playE s.s l = 0
  · exact k_rWhereO s l A cc bag day w hs hl h
  · exact k_rWhereB s l A cc bag day w hs hl h

theorem k_rSuspB (s : StrV) (l : List CarryV) (A : Option Addr) (cc : Nat) (bag : Int) (w : World) (hs : StrRd w s) (hl : Rd w 8 encCa A l) (h0 : playE s.s l ≠ 0) : Calls Tryz.prog 11 #[.agg #[.slice s.Ar s.rooms.length s.cr, .slice s.Ag s.gates.length s.cg, .slice s.As s.staff.length s.cs], .slice A l.length cc, .int .i64 bag] w (fun e w' => ∃ A c, e = .returned (.tuple #[.slice A (intsL (suspV s.s l bag)).length c, .int .i64 (suspE s.s l bag)]) ∧ Grow w w' ∧ Res w w' 1 enInt A (intsL (suspV s.s l bag))) := by
  refine enter_pure (args := [.agg #[.slice s.Ar s.rooms.length s.cr, .slice s.Ag s.gates.length s.cg, .slice s.As s.staff.length s.cs], .slice A l.length cc, .int .i64 bag]) [sl (fun b => b < w.heap.size) 3 encRo s.Ar s.rooms, sl (fun b => b < w.heap.size) 4 encGa s.Ag s.gates, sl (fun b => b < w.heap.size) 1 enInt s.As s.staff, sl (fun b => b < w.heap.size) 8 encCa A l] Tryz.func11 rfl (by rw [Tryz.ntmps11]; simp) (fun g hg => by simp at hg; rcases hg with rfl | rfl | rfl | rfl; exact ⟨hs.rooms, fun _ h => h⟩; exact ⟨hs.gates, fun _ h => h⟩; exact ⟨hs.staff, fun _ h => h⟩; exact ⟨hl, fun _ h => h⟩) ?_
  refine cj_seq (cj_region ?_)
  refine oj_box rfl rfl rfl (fun b3 => ?_)
  refine oj_step (y_assign rfl) rfl rfl rfl ?_
  refine oj_step (y_assign rfl) rfl rfl rfl ?_
  refine oj_nil ?_
  refine ej_th (cj_seq ?_)
  refine cj_regionG ?_
  refine gj_step (y_loadN Tryz.isAgg26 Tryz.sizeOf26 rfl) rfl rfl rfl (gj_step (y_move rfl) rfl rfl rfl (?_))
  refine gj_step (y_call Tryz.call16 rfl (fun w hp => k_playB s l A cc 36500 w (hs.mono hp.below) hp.rd (by rw [(day_all s.s l).1]; exact h0))) rfl rfl rfl ?_
  refine gj_step (y_move rfl) rfl rfl rfl (gj_step (y_extract rfl rfl) rfl rfl rfl (gj_step (y_extract rfl rfl) rfl rfl rfl (gj_step (y_extract rfl rfl) rfl rfl rfl (gj_step (y_assign rfl) rfl rfl rfl (gj_step (y_assign rfl) rfl rfl rfl (gj_step (y_assign rfl) rfl rfl rfl (?_)))))))
  refine gj_nil ?_
  refine ej_th (cj_seq (cj_seq ?_))
  rw [(day_all s.s l).1, (day_all s.s l).2]
  refine cj_regionG (gj_step (y_move rfl) rfl rfl rfl (gj_step (y_neq rfl rfl) rfl rfl rfl (gj_nil ?_)))
  refine ej_th ?_
  refine cj_cond rfl (fun h21 => ?_) (fun h21 => ?_)
  · have h21b := h21
    try simp only [sxb] at h21
    have hE : suspE s.s l bag = playE s.s l := by rw [suspE, if_neg h21]
    have hV : suspV s.s l bag = [] := by rw [suspV, hE, if_neg h21]
    refine cj_seq ?_
    refine cj_regionG (gj_step (y_move rfl) rfl rfl rfl (gj_step (y_assign rfl) rfl rfl rfl (gj_step (y_assign rfl) rfl rfl rfl (gj_nil ?_))))
    refine ej_th (cj_ret (ej_then_ret ?_))
    exact ej_ret2 rfl Tryz.results11 rfl rfl (fun w' hp => ⟨none, 0, by rw [hV, hE]; rfl, hp.below, by rw [hV]; exact Res.nil⟩)
  · exact absurd (by simpa using h21) h0

set_option maxHeartbeats 1600000 in
theorem k_rSuspO (s : StrV) (l : List CarryV) (A : Option Addr) (cc : Nat) (bag : Int) (w : World) (hs : StrRd w s) (hl : Rd w 8 encCa A l) (h0 : playE s.s l = 0) : Calls Tryz.prog 11 #[.agg #[.slice s.Ar s.rooms.length s.cr, .slice s.Ag s.gates.length s.cg, .slice s.As s.staff.length s.cs], .slice A l.length cc, .int .i64 bag] w (fun e w' => ∃ A c, e = .returned (.tuple #[.slice A (intsL (suspV s.s l bag)).length c, .int .i64 (suspE s.s l bag)]) ∧ Grow w w' ∧ Res w w' 1 enInt A (intsL (suspV s.s l bag))) := by
  obtain ⟨hb, hlb, hl64⟩ := play_0 h0
  have hua := upto_all hlb
  have hok2 := hrun_ok h0 (uptoN l 36500) (upto_le l 36500)
  have hl32 := hok2.inv.len
  have hsl := hok2.len
  have hsd := getD_bd hok2.bd bag.toNat
  have hlr := hs.rooms.len
  have hnr := (rooms_le hb).2.1
  have hnr2 : s.rooms.length ≤ 6 := hnr
  refine enter_pure (args := [.agg #[.slice s.Ar s.rooms.length s.cr, .slice s.Ag s.gates.length s.cg, .slice s.As s.staff.length s.cs], .slice A l.length cc, .int .i64 bag]) [sl (fun b => b < w.heap.size) 3 encRo s.Ar s.rooms, sl (fun b => b < w.heap.size) 4 encGa s.Ag s.gates, sl (fun b => b < w.heap.size) 1 enInt s.As s.staff, sl (fun b => b < w.heap.size) 8 encCa A l] Tryz.func11 rfl (by rw [Tryz.ntmps11]; simp) (fun g hg => by simp at hg; rcases hg with rfl | rfl | rfl | rfl; exact ⟨hs.rooms, fun _ h => h⟩; exact ⟨hs.gates, fun _ h => h⟩; exact ⟨hs.staff, fun _ h => h⟩; exact ⟨hl, fun _ h => h⟩) ?_
  refine cj_seq (cj_region ?_)
  refine oj_box rfl rfl rfl (fun b3 => ?_)
  refine oj_step (y_assign rfl) rfl rfl rfl ?_
  refine oj_step (y_assign rfl) rfl rfl rfl ?_
  refine oj_nil ?_
  refine ej_th (cj_seq (cj_region ?_))
  refine oj_step (y_loadN Tryz.isAgg26 Tryz.sizeOf26 rfl) rfl rfl rfl ?_
  refine oj_step (y_move rfl) rfl rfl rfl ?_
  refine oj_callL (X := HA) (fun z => .tuple #[.pointer (some ⟨z.b, 0, none⟩), .int .i64 (l.length : Nat), .int .i64 (0)]) [] (fun z => [ownB z.b (cellsB 56 [.slice s.Ar s.rooms.length s.cr, .slice s.Ag s.gates.length s.cg, .slice s.As s.staff.length s.cs, .slice z.Ab 32 z.cb, .slice z.Ae (hrun l (uptoN l 36500)).ever.length z.ce, .slice z.As (hrun l (uptoN l 36500)).st.seals.length z.cs, .slice z.An 32 z.cn]), ow 30 5 encBa z.Ab z.cb (hrun l (uptoN l 36500)).st.bags, ow 3 1 enInt z.Ae z.ce (hrun l (uptoN l 36500)).ever, ow 3 1 enInt z.As z.cs (hrun l (uptoN l 36500)).st.seals, ow 3 1 enInt z.An z.cn (hrun l (uptoN l 36500)).since]) Tryz.call16 rfl rfl (fun w1 hp => k_playO s l A cc 36500 w1 (hs.mono hp.below) hp.rd (by rw [(day_all s.s l).1]; exact h0)) rfl (fun a => ?_)
  dsimp only [List.cons_append, List.nil_append]
  refine oj_step (y_move rfl) rfl rfl rfl ?_
  refine oj_step (y_extract rfl rfl) rfl rfl rfl ?_
  refine oj_step (y_extract rfl rfl) rfl rfl rfl ?_
  refine oj_step (y_extract rfl rfl) rfl rfl rfl ?_
  refine oj_step (y_assign rfl) rfl rfl rfl ?_
  refine oj_step (y_assign rfl) rfl rfl rfl ?_
  refine oj_step (y_assign rfl) rfl rfl rfl ?_
  refine oj_nil ?_
  refine ej_th (cj_seq (cj_seq ?_))
  refine cj_regionG (gj_step (y_move rfl) rfl rfl rfl (gj_step (y_neq rfl rfl) rfl rfl rfl (gj_nil ?_)))
  refine ej_th ?_
  refine cj_cond rfl (fun h21 => ?_) (fun h21 => ?_)
  · exact absurd h21 (by decide)
  · have h21b := h21
    try simp only [sxb] at h21
    refine cj_skip (ej_th (cj_seq (cj_seq ?_)))
    refine cj_regionG ?_
    refine gj_step (y_move rfl) rfl rfl rfl (?_)
    refine gj_step (y_call Tryz.call20 rfl (fun w hp => k_From _ _ _ w)) rfl rfl rfl ?_
    refine gj_step (y_not rfl) rfl rfl rfl (?_)
    refine gj_nil ?_
    refine ej_th ?_
    refine cj_cond rfl (fun h25 => ?_) (fun h25 => ?_)
    · have h25b := h25
      try simp only [sxb] at h25
      have hE : suspE s.s l bag = 7 := by rw [suspE, if_pos h0, if_neg (by rw [not_t h25b]; simp)]
      have hV : suspV s.s l bag = [] := by rw [suspV, hE]; rfl
      refine cj_seq ?_
      refine cj_regionG (gj_step (y_assign rfl) rfl rfl rfl (gj_step (y_assign rfl) rfl rfl rfl (gj_nil ?_)))
      refine ej_th (cj_ret (ej_then_ret ?_))
      exact ej_ret2 rfl Tryz.results11 rfl rfl (fun w' hp => ⟨none, 0, by rw [hV, hE]; rfl, hp.below, by rw [hV]; exact Res.nil⟩)
    · have h25b := h25
      try simp only [sxb] at h25
      have hb1 := not_f h25b
      have hbg := btw_t.1 hb1
      have hx := bagAt_get hok2.inv hbg
      have hsa : (hrun l (uptoN l 36500)).since[bag.toNat]? = some ((hrun l (uptoN l 36500)).since.getD bag.toNat 0) := by
        rw [List.getD_eq_getElem?_getD, List.getElem?_eq_getElem (by omega : bag.toNat < (hrun l (uptoN l 36500)).since.length)]; rfl
      have hrm : (bagAt (hrun l (uptoN l 36500)).st bag).room = ((playB s.s l).getD bag.toNat bag0).room := by
        rw [hrun_room h0 (upto_le l 36500) bag, hua]
        unfold roomK
        rw [List.take_length]
      refine cj_skip (ej_th (cj_seq (cj_seq ?_)))
      refine cj_regionG (gj_step (y_move rfl) rfl rfl rfl (gj_step (y_nil rfl) rfl rfl rfl (gj_step (y_fa fa56_1 rfl) rfl rfl rfl (gj_step (y_load1 Tryz.isAgg54 rfl rfl) rfl rfl rfl (gj_step (y_move rfl) rfl rfl rfl (gj_step (y_ixRm (m := 32) (xs := (hrun l (uptoN l 36500)).st.bags) hl32.symm (reads_ow enBa_len) Tryz.underlying54 Tryz.sizeOf30 rfl rfl ⟨by omega, by omega⟩) rfl rfl rfl (gj_step (y_faE fa30_0 rfl) rfl rfl rfl (gj_step (y_ld1 (reads_ow enBa_len) Tryz.isAgg3 rfl hx rfl) rfl rfl rfl (gj_step (y_eql rfl rfl) rfl rfl rfl (gj_nil ?_))))))))))
      refine ej_th ?_
      refine cj_cond rfl (fun h34 => ?_) (fun h34 => ?_)
      · have h34b := h34
        try simp only [sxb] at h34
        have hE : suspE s.s l bag = 44 := by rw [suspE, if_pos h0, if_pos hb1, if_pos (by rw [← hrm]; simpa using h34)]
        have hV : suspV s.s l bag = [] := by rw [suspV, hE]; rfl
        refine cj_seq ?_
        refine cj_regionG (gj_step (y_assign rfl) rfl rfl rfl (gj_step (y_assign rfl) rfl rfl rfl (gj_nil ?_)))
        refine ej_th (cj_ret (ej_then_ret ?_))
        exact ej_ret2 rfl Tryz.results11 rfl rfl (fun w' hp => ⟨none, 0, by rw [hV, hE]; rfl, hp.below, by rw [hV]; exact Res.nil⟩)
      · have h34b := h34
        try simp only [sxb] at h34
        have hE : suspE s.s l bag = 0 := by rw [suspE, if_pos h0, if_pos hb1, if_neg (by rw [← hrm]; simpa using h34)]
        have hV : minL (allRooms s.s ((hrun l (uptoN l 36500)).since.getD bag.toNat 0).toNat s.rooms.length) = suspV s.s l bag := by
          have h9 := susp_set hE
          rw [hua]; exact h9
        refine cj_skip (ej_th (cj_seq ?_))
        refine cj_regionG (gj_step (y_assign rfl) rfl rfl rfl (gj_nil ?_))
        refine ej_th (cj_seq (cj_seq ?_))
        refine cj_regionG (gj_step (y_assign rfl) rfl rfl rfl (gj_nil ?_))
        refine ej_th (cj_block ?_)
        refine cj_ownNil 3 1 enInt ?_
        refine cj_lpi (X := Nat × Option Addr × Nat × List Int) [(2, _), (3, _), (6, _), (7, _), (8, _)] (fun ⟨m, A1, c1, xs⟩ => m ≤ s.rooms.length ∧ xs = intsL (allRooms s.s ((hrun l (uptoN l 36500)).since.getD bag.toNat 0).toNat m) ∧ xs.length ≤ 64 * m) (fun ⟨m, A1, c1, xs⟩ => [(11, .slice A1 xs.length c1), (12, .int .i64 (m : Nat))]) (fun ⟨m, A1, c1, xs⟩ => [ow 3 1 enInt A1 c1 xs, ownB a.b (cellsB 56 [.slice s.Ar s.rooms.length s.cr, .slice s.Ag s.gates.length s.cg, .slice s.As s.staff.length s.cs, .slice a.Ab 32 a.cb, .slice a.Ae (hrun l (uptoN l 36500)).ever.length a.ce, .slice a.As (hrun l (uptoN l 36500)).st.seals.length a.cs, .slice a.An 32 a.cn]), ow 30 5 encBa a.Ab a.cb (hrun l (uptoN l 36500)).st.bags, ow 3 1 enInt a.Ae a.ce (hrun l (uptoN l 36500)).ever, ow 3 1 enInt a.As a.cs (hrun l (uptoN l 36500)).st.seals, ow 3 1 enInt a.An a.cn (hrun l (uptoN l 36500)).since, ownB b3 (cellsB 26 [.slice s.Ar s.rooms.length s.cr, .slice s.Ag s.gates.length s.cg, .slice s.As s.staff.length s.cs])]) (fun ⟨m, A1, c1, xs⟩ => [sl (fun b => b < w.heap.size) 3 encRo s.Ar s.rooms, sl (fun b => b < w.heap.size) 4 encGa s.Ag s.gates, sl (fun b => b < w.heap.size) 1 enInt s.As s.staff, sl (fun b => b < w.heap.size) 8 encCa A l]) (fun ⟨m, A1, c1, xs⟩ => s.rooms.length - m) (0, none, 0, []) (⟨Nat.zero_le _, rfl, Nat.le_refl _⟩) ⟨rfl, rfl, rfl, rfl, rfl, rfl, rfl, trivial⟩ ?_
        rintro ⟨m, A1, c1, xs⟩ ⟨hm, hxs, hxl⟩
        dsimp only [List.cons_append, List.nil_append]
        refine cj_seq (cj_seq ?_)
        refine cj_regionG (gj_step (y_move rfl) rfl rfl rfl (gj_step (y_fa0 fa26_0 rfl) rfl rfl rfl (gj_step (y_load1 Tryz.isAgg22 rfl rfl) rfl rfl rfl (gj_step (y_lenA Tryz.underlying22 rfl) rfl rfl rfl (gj_step (y_lss rfl rfl) rfl rfl rfl (gj_nil ?_))))))
        refine ej_th ?_
        refine cj_cond rfl (fun h39 => ?_) (fun h39 => ?_)
        · have h39b := h39
          try simp only [sxb] at h39
          have hrs := all_rooms_s (s := s.s) (set := ((hrun l (uptoN l 36500)).since.getD bag.toNat 0).toNat) (m := m)
          have hrl : (intsL (reachL s.s m)).length ≤ 64 := by
            rw [enC]
            unfold reachL setsN
            exact Nat.le_trans (List.length_filter_le _ _) (by rw [List.length_range]; exact staff_le hb)
          refine cj_skip (ej_th (cj_seq (cj_block (cj_seq ?_))))
          refine cj_regionG ?_
          refine gj_step (y_move rfl) rfl rfl rfl (gj_step (y_nil rfl) rfl rfl rfl (gj_step (y_fa fa56_4 rfl) rfl rfl rfl (gj_step (y_load1 Tryz.isAgg24 rfl rfl) rfl rfl rfl (gj_step (y_move rfl) rfl rfl rfl (gj_step (y_ixRm (m := 32) (xs := (hrun l (uptoN l 36500)).since) hsl.symm reads_owI Tryz.underlying24 Tryz.sizeOf3 rfl rfl ⟨by omega, by omega⟩) rfl rfl rfl (gj_step (y_ld0 reads_owI Tryz.isAgg3 rfl hsa rfl) rfl rfl rfl (gj_step (y_move rfl) rfl rfl rfl (?_))))))))
          refine gj_step (y_call Tryz.call30 rfl (fun w hp => k_BitZ ((hrun l (uptoN l 36500)).since.getD bag.toNat 0) (m : Nat) w hsd.1 (by omega) (by omega))) rfl rfl rfl ?_
          refine gj_nil ?_
          refine ej_th ?_
          refine cj_cond rfl (fun h50 => ?_) (fun h50 => ?_)
          · have h50b := h50
            try simp only [sxb] at h50
            refine cj_region ?_
            refine oj_step (y_move rfl) rfl rfl rfl ?_
            refine oj_step (y_loadN Tryz.isAgg26 Tryz.sizeOf26 rfl) rfl rfl rfl ?_
            refine oj_step (y_move rfl) rfl rfl rfl ?_
            refine oj_callS (fun A c => .slice A (intsL (reachL s.s m)).length c) 1 enInt (intsL (reachL s.s m)) Tryz.call31 rfl (fun w hp => k_rreaching s m w (hs.mono hp.below) hb (by omega)) rfl (fun A54 c54 fp54 hfp54 => ?_)
            refine oj_append  el24 (fun _ => rfl) enInt_one rfl rfl rfl (reads_sl) (by unfold maxLen; omega) (by omega) rfl (fun A55 c55 => ?_)
            refine oj_step (y_assign rfl) rfl rfl rfl ?_
            refine oj_nil ?_
            refine ej_blk (ej_th ?_)
            refine cj_regionG (gj_step (y_move rfl) rfl rfl rfl (gj_step (y_add rfl rfl (by omega)) rfl rfl rfl (gj_step (y_assign rfl) rfl rfl rfl (gj_nil ?_))))
            exact ej_nx (m + 1, A55, c55, xs ++ intsL (reachL s.s m)) (by first | omega | (simp only; omega)) ⟨by first | omega | (simp only; omega), by rw [hrs, if_pos (by simpa using h50), ints_app, ← hxs], by simp only [List.length_append]; omega⟩ ⟨rfl, rfl, rfl, rfl, rfl, rfl, rfl, trivial⟩
          · have h50b := h50
            try simp only [sxb] at h50
            refine cj_skip (ej_blk (ej_th ?_))
            refine cj_regionG (gj_step (y_move rfl) rfl rfl rfl (gj_step (y_add rfl rfl (by omega)) rfl rfl rfl (gj_step (y_assign rfl) rfl rfl rfl (gj_nil ?_))))
            exact ej_nx (m + 1, A1, c1, xs) (by first | omega | (simp only; omega)) ⟨by first | omega | (simp only; omega), by rw [hrs, if_neg (by simpa using h50), List.append_nil, ← hxs], by first | omega | (simp only; omega)⟩ ⟨rfl, rfl, rfl, rfl, rfl, rfl, rfl, trivial⟩
        · have h39b := h39
          try simp only [sxb] at h39
          have hme : m = s.rooms.length := by omega
          subst hme
          have hxl2 : xs.length = (intsL (allRooms s.s ((hrun l (uptoN l 36500)).since.getD bag.toNat 0).toNat s.rooms.length)).length := by rw [hxs]
          refine cj_exit (ej_then_exit (ej_then_exit (ej_blk_hit (ej_th (cj_seq (cj_region ?_))))))
          refine oj_step (y_move rfl) rfl rfl rfl ?_
          refine oj_callS (fun A c => .slice A (intsL (minL (allRooms s.s ((hrun l (uptoN l 36500)).since.getD bag.toNat 0).toNat s.rooms.length))).length c) 1 enInt (intsL (minL (allRooms s.s ((hrun l (uptoN l 36500)).since.getD bag.toNat 0).toNat s.rooms.length))) Tryz.call32 rfl (fun w hp => by
            have h9 := k_rLeast (allRooms s.s ((hrun l (uptoN l 36500)).since.getD bag.toNat 0).toNat s.rooms.length) A1 c1 w (by rw [← hxs]; exact hp.rdO (fun _ => rfl) (by unfold maxLen; omega)) (all_rooms_lt hb _ _)
            rw [show (intsL (allRooms s.s ((hrun l (uptoN l 36500)).since.getD bag.toNat 0).toNat s.rooms.length)).length = xs.length by rw [← hxs]] at h9
            exact h9) rfl (fun A57 c57 fp57 hfp57 => ?_)
          refine oj_step (y_assign rfl) rfl rfl rfl ?_
          refine oj_step (y_assign rfl) rfl rfl rfl ?_
          refine oj_nil ?_
          refine ej_th (cj_ret ?_)
          exact ej_ret2 rfl Tryz.results11 rfl rfl (fun w' hp => ⟨A57, c57, by rw [← hV, hE], hp.below, by rw [← hV]; exact hp.resS (fun b hb => hfp57 b hb)⟩)

theorem k_rSuspects (s : StrV) (l : List CarryV) (A : Option Addr) (cc : Nat) (bag : Int) (w : World) (hs : StrRd w s) (hl : Rd w 8 encCa A l) : Calls Tryz.prog 11 #[.agg #[.slice s.Ar s.rooms.length s.cr, .slice s.Ag s.gates.length s.cg, .slice s.As s.staff.length s.cs], .slice A l.length cc, .int .i64 bag] w (fun e w' => ∃ A c, e = .returned (.tuple #[.slice A (intsL (suspV s.s l bag)).length c, .int .i64 (suspE s.s l bag)]) ∧ Grow w w' ∧ Res w w' 1 enInt A (intsL (suspV s.s l bag))) := by
  by_cases h : playE s.s l = 0
  · exact k_rSuspO s l A cc bag w hs hl h
  · exact k_rSuspB s l A cc bag w hs hl h

end Go.Proofs.YtomidcehahdmbaaGreat
namespace Go.Proofs.YtomidcehahdmbaaGreat
open Go.Sx Go.RowKit
set_option maxRecDepth 20000

end Go.Proofs.YtomidcehahdmbaaGreat
namespace Go.Proofs.YtomidcehahdmbaaGreat
open Go.Sx Go.RowKit Vm
set_option maxRecDepth 20000
theorem ne_bags {l m : List BagV} (hl : l.length = 32) (hm : m.length = 32) (x y : Operand) (w : World) : (do eqGuard .neq 31 x y (.agg (l.flatMap encBa).toArray) (.agg (m.flatMap encBa).toArray); binOp .neq 31 (.agg (l.flatMap encBa).toArray) (.agg (m.flatMap encBa).toArray) : Sem Value).run Tryz.prog w = .ok (.bool (!decide (l = m))) w := by
  have h1 := run_eq_arr (P := Tryz.prog) (xs := (l.flatMap encBa).toArray) (ys := (m.flatMap encBa).toArray) (d := 9999) (fun i => decide (l.getD i bag0 = m.getD i bag0)) Tryz.underlying31 Tryz.sizeOf30 (fun i hi w => ⟨.agg (encBa (l.getD i bag0)).toArray, .agg (encBa (m.getD i bag0)).toArray, by simp [part, Tryz.isAgg30, Tryz.sizeOf30, bf_part hl hi], by simp [part, Tryz.isAgg30, Tryz.sizeOf30, bf_part hm hi], eq_bag _ _ 9997 w⟩) w
  rw [all_eq hl hm] at h1
  rw [Sem.run_bind, run_eqGuard_agg w .neq 31 x y _ _ Tryz.eqGuardType31, Result.andThen_ok, run_neq_struct, h1]; rfl

set_option maxHeartbeats 1600000 in
theorem k_VaultPlays (s : StrV) (l : List CarryV) (A : Option Addr) (cc : Nat) (n0 n1 : Int) (w : World) (hs : StrRd w s) (hl : Rd w 8 encCa A l) (hcap : l.length ≤ cc) : Calls Tryz.prog 3 #[.agg #[.slice s.Ar s.rooms.length s.cr, .slice s.Ag s.gates.length s.cg, .slice s.As s.staff.length s.cs], .slice A l.length cc, .agg #[.int .i64 n0, .int .i64 n1]] w (fun e w' => e = .returned (.bool true) ∧ Grow w w') := by
  have hpl := playB_len (s := s.s) l
  refine enter_pure (args := [.agg #[.slice s.Ar s.rooms.length s.cr, .slice s.Ag s.gates.length s.cg, .slice s.As s.staff.length s.cs], .slice A l.length cc, .agg #[.int .i64 n0, .int .i64 n1]]) [sl (fun b => b < w.heap.size) 3 encRo s.Ar s.rooms, sl (fun b => b < w.heap.size) 4 encGa s.Ag s.gates, sl (fun b => b < w.heap.size) 1 enInt s.As s.staff, sl (fun b => b < w.heap.size) 8 encCa A l] Tryz.func3 rfl (by rw [Tryz.ntmps3]; simp) (fun g hg => by simp at hg; rcases hg with rfl | rfl | rfl | rfl; exact ⟨hs.rooms, fun _ h => h⟩; exact ⟨hs.gates, fun _ h => h⟩; exact ⟨hs.staff, fun _ h => h⟩; exact ⟨hl, fun _ h => h⟩) ?_
  refine cj_seq (cj_region ?_)
  refine oj_box rfl rfl rfl (fun b3 => ?_)
  refine oj_box rfl rfl rfl (fun b5 => ?_)
  refine oj_step (y_assign rfl) rfl rfl rfl ?_
  refine oj_nil ?_
  refine ej_th (cj_seq (cj_region ?_))
  refine oj_step (y_loadN Tryz.isAgg26 Tryz.sizeOf26 rfl) rfl rfl rfl ?_
  refine oj_step (y_move rfl) rfl rfl rfl ?_
  refine oj_step (y_call Tryz.call5 rfl (fun w hp => k_Play s l A cc w (hs.mono hp.below) hp.rd)) rfl rfl rfl ?_
  refine oj_step (y_move rfl) rfl rfl rfl ?_
  refine oj_step (y_extract rfl rfl) rfl rfl rfl ?_
  refine oj_step (y_extract rfl rfl) rfl rfl rfl ?_
  refine oj_step (y_extract rfl rfl) rfl rfl rfl ?_
  refine oj_alloc Tryz.zeroValue31 rfl rfl (fun b7 => ?_)
  refine oj_store (vs := ((playB s.s l).flatMap encBa)) (n := 160) (hset := set_all _ _ (by rw [bf_len hpl]; rfl)) rfl rfl rfl (bf_one _) Tryz.sizeOf31 (bf_len hpl) ?_
  refine oj_step (y_assign rfl) rfl rfl rfl ?_
  refine oj_step (y_assign rfl) rfl rfl rfl ?_
  refine oj_nil ?_
  refine ej_th (cj_seq (cj_region ?_))
  refine oj_step (y_loadN Tryz.isAgg26 Tryz.sizeOf26 rfl) rfl rfl rfl ?_
  refine oj_step (y_move rfl) rfl rfl rfl ?_
  refine oj_step (y_call Tryz.call6 rfl (fun w hp => k_rPlay s l A cc w (hs.mono hp.below) hp.rd)) rfl rfl rfl ?_
  refine oj_step (y_move rfl) rfl rfl rfl ?_
  refine oj_step (y_extract rfl rfl) rfl rfl rfl ?_
  refine oj_step (y_extract rfl rfl) rfl rfl rfl ?_
  refine oj_step (y_extract rfl rfl) rfl rfl rfl ?_
  refine oj_alloc Tryz.zeroValue31 rfl rfl (fun b10 => ?_)
  refine oj_store (vs := ((playB s.s l).flatMap encBa)) (n := 160) (hset := set_all _ _ (by rw [bf_len hpl]; rfl)) rfl rfl rfl (bf_one _) Tryz.sizeOf31 (bf_len hpl) ?_
  refine oj_step (y_assign rfl) rfl rfl rfl ?_
  refine oj_step (y_assign rfl) rfl rfl rfl ?_
  refine oj_nil ?_
  refine ej_th (cj_seq (cj_seq ?_))
  refine cj_regionG (gj_step (y_loadN (hv := tk_all _ (bf_len hpl)) Tryz.isAgg31 Tryz.sizeOf31 rfl) rfl rfl rfl (gj_step (y_loadN (hv := tk_all _ (bf_len hpl)) Tryz.isAgg31 Tryz.sizeOf31 rfl) rfl rfl rfl (gj_step (y_bin rfl rfl (fun x y w => ne_bags hpl hpl x y w)) rfl rfl rfl (gj_step (y_move rfl) rfl rfl rfl (gj_g 3 32 35 rfl rfl rfl rfl (fun hg32 => gj_yes rfl rfl rfl (y_move rfl) rfl rfl (gj_yes rfl rfl rfl (y_move rfl) rfl rfl (gj_yes rfl rfl rfl (y_neq rfl rfl) rfl rfl (gj_nil rfl)))) (gj_step (y_or rfl rfl rfl) rfl rfl rfl (gj_step (y_move rfl) rfl rfl rfl (gj_g 3 37 40 rfl rfl rfl rfl (fun hg37 => gj_yes rfl rfl rfl (y_move rfl) rfl rfl (gj_yes rfl rfl rfl (y_move rfl) rfl rfl (gj_yes rfl rfl rfl (y_neq rfl rfl) rfl rfl (gj_nil rfl)))) (gj_step (y_or rfl rfl rfl) rfl rfl rfl (gj_nil ?_))))))))))
  refine ej_th ?_
  refine cj_cond rfl (fun h41 => ?_) (fun h41 => ?_)
  · simp at h41
  · have h41b := h41
    try simp only [sxb] at h41
    refine cj_skip (ej_th (cj_seq ?_))
    refine cj_regionG ?_
    refine gj_step (y_loadN Tryz.isAgg26 Tryz.sizeOf26 rfl) rfl rfl rfl (gj_step (y_move rfl) rfl rfl rfl (gj_step (y_ixArrC 0 Tryz.underlying28 Tryz.sizeOf3 rfl rfl (by decide) (by decide)) rfl rfl rfl (gj_step (y_load1 Tryz.isAgg3 rfl rfl) rfl rfl rfl (gj_step (y_ixArrC 1 Tryz.underlying28 Tryz.sizeOf3 rfl rfl (by decide) (by decide)) rfl rfl rfl (gj_step (y_load1 Tryz.isAgg3 rfl rfl) rfl rfl rfl (?_))))))
    refine gj_step (y_call Tryz.call7 rfl (fun w hp => k_Where s l A cc n0 n1 w (hs.mono hp.below) hp.rd hcap)) rfl rfl rfl ?_
    refine gj_step (y_move rfl) rfl rfl rfl (gj_step (y_extract rfl rfl) rfl rfl rfl (gj_step (y_extract rfl rfl) rfl rfl rfl (gj_step (y_assign rfl) rfl rfl rfl (gj_step (y_assign rfl) rfl rfl rfl (?_)))))
    refine gj_nil ?_
    refine ej_th (cj_seq ?_)
    refine cj_regionG ?_
    refine gj_step (y_loadN Tryz.isAgg26 Tryz.sizeOf26 rfl) rfl rfl rfl (gj_step (y_move rfl) rfl rfl rfl (gj_step (y_ixArrC 0 Tryz.underlying28 Tryz.sizeOf3 rfl rfl (by decide) (by decide)) rfl rfl rfl (gj_step (y_load1 Tryz.isAgg3 rfl rfl) rfl rfl rfl (gj_step (y_ixArrC 1 Tryz.underlying28 Tryz.sizeOf3 rfl rfl (by decide) (by decide)) rfl rfl rfl (gj_step (y_load1 Tryz.isAgg3 rfl rfl) rfl rfl rfl (?_))))))
    refine gj_step (y_call Tryz.call8 rfl (fun w hp => k_rWhere s l A cc n0 n1 w (hs.mono hp.below) hp.rd)) rfl rfl rfl ?_
    refine gj_step (y_move rfl) rfl rfl rfl (gj_step (y_extract rfl rfl) rfl rfl rfl (gj_step (y_extract rfl rfl) rfl rfl rfl (gj_step (y_assign rfl) rfl rfl rfl (gj_step (y_assign rfl) rfl rfl rfl (?_)))))
    refine gj_nil ?_
    refine ej_th (cj_seq ?_)
    refine cj_regionG ?_
    refine gj_step (y_move rfl) rfl rfl rfl (gj_step (y_move rfl) rfl rfl rfl (gj_step (y_eql rfl rfl) rfl rfl rfl (gj_step (y_move rfl) rfl rfl rfl (?_))))
    refine gj_g 3 65 68 rfl rfl rfl rfl (fun hg65 => gj_yes rfl rfl rfl (y_move rfl) rfl rfl (gj_yes rfl rfl rfl (y_move rfl) rfl rfl (gj_yes rfl rfl rfl (y_eql rfl rfl) rfl rfl (gj_nil rfl)))) ?_
    refine gj_step (y_and rfl rfl rfl) rfl rfl rfl (gj_step (y_move rfl) rfl rfl rfl (?_))
    refine gj_g 1 70 71 rfl rfl rfl rfl (fun hg70 => gj_yes rfl rfl rfl (y_call Tryz.call9 rfl (fun w hp => k_works w)) rfl rfl (gj_nil rfl)) ?_
    refine gj_step (y_and rfl rfl rfl) rfl rfl rfl (gj_step (y_assign rfl) rfl rfl rfl (?_))
    refine gj_nil ?_
    refine ej_th (cj_ret ?_)
    exact ej_ret1 rfl Tryz.results3 rfl (fun w' hp => ⟨by simp, hp.below⟩)

theorem k_VaultSuspects (s : StrV) (l : List CarryV) (A : Option Addr) (cc : Nat) (bag : Int) (w : World) (hs : StrRd w s) (hl : Rd w 8 encCa A l) (hcap : l.length ≤ cc) : Calls Tryz.prog 4 #[.agg #[.slice s.Ar s.rooms.length s.cr, .slice s.Ag s.gates.length s.cg, .slice s.As s.staff.length s.cs], .slice A l.length cc, .int .i64 bag] w (fun e w' => e = .returned (.bool true) ∧ Grow w w') := by
  refine enter_pure (args := [.agg #[.slice s.Ar s.rooms.length s.cr, .slice s.Ag s.gates.length s.cg, .slice s.As s.staff.length s.cs], .slice A l.length cc, .int .i64 bag]) [sl (fun b => b < w.heap.size) 3 encRo s.Ar s.rooms, sl (fun b => b < w.heap.size) 4 encGa s.Ag s.gates, sl (fun b => b < w.heap.size) 1 enInt s.As s.staff, sl (fun b => b < w.heap.size) 8 encCa A l] Tryz.func4 rfl (by rw [Tryz.ntmps4]; simp) (fun g hg => by simp at hg; rcases hg with rfl | rfl | rfl | rfl; exact ⟨hs.rooms, fun _ h => h⟩; exact ⟨hs.gates, fun _ h => h⟩; exact ⟨hs.staff, fun _ h => h⟩; exact ⟨hl, fun _ h => h⟩) ?_
  refine cj_seq (cj_region ?_)
  refine oj_box rfl rfl rfl (fun b3 => ?_)
  refine oj_step (y_assign rfl) rfl rfl rfl ?_
  refine oj_nil ?_
  refine ej_th (cj_seq (cj_region ?_))
  refine oj_step (y_loadN Tryz.isAgg26 Tryz.sizeOf26 rfl) rfl rfl rfl ?_
  refine oj_step (y_move rfl) rfl rfl rfl ?_
  refine oj_step (y_move rfl) rfl rfl rfl ?_
  refine oj_callS (fun A c => .tuple #[.slice A (intsL (suspV s.s l bag)).length c, .int .i64 (suspE s.s l bag)]) 1 enInt (intsL (suspV s.s l bag)) Tryz.call10 rfl (fun w hp => k_Suspects s l A cc bag w (hs.mono hp.below) hp.rd hcap) rfl (fun A15 c15 fp15 hfp15 => ?_)
  refine oj_step (y_move rfl) rfl rfl rfl ?_
  refine oj_step (y_extract rfl rfl) rfl rfl rfl ?_
  refine oj_step (y_extract rfl rfl) rfl rfl rfl ?_
  refine oj_step (y_assign rfl) rfl rfl rfl ?_
  refine oj_step (y_assign rfl) rfl rfl rfl ?_
  refine oj_nil ?_
  refine ej_th (cj_seq (cj_region ?_))
  refine oj_step (y_loadN Tryz.isAgg26 Tryz.sizeOf26 rfl) rfl rfl rfl ?_
  refine oj_step (y_move rfl) rfl rfl rfl ?_
  refine oj_step (y_move rfl) rfl rfl rfl ?_
  refine oj_callS (fun A c => .tuple #[.slice A (intsL (suspV s.s l bag)).length c, .int .i64 (suspE s.s l bag)]) 1 enInt (intsL (suspV s.s l bag)) Tryz.call11 rfl (fun w hp => k_rSuspects s l A cc bag w (hs.mono hp.below) hp.rd) rfl (fun A22 c22 fp22 hfp22 => ?_)
  refine oj_step (y_move rfl) rfl rfl rfl ?_
  refine oj_step (y_extract rfl rfl) rfl rfl rfl ?_
  refine oj_step (y_extract rfl rfl) rfl rfl rfl ?_
  refine oj_step (y_assign rfl) rfl rfl rfl ?_
  refine oj_step (y_assign rfl) rfl rfl rfl ?_
  refine oj_nil ?_
  refine ej_th (cj_seq ?_)
  refine cj_regionG ?_
  refine gj_step (y_move rfl) rfl rfl rfl (gj_step (y_move rfl) rfl rfl rfl (?_))
  refine gj_step (y_call Tryz.call12 rfl (fun w hp => k_Same (intsL (suspV s.s l bag)) (intsL (suspV s.s l bag)) A15 A22 c15 c22 w hp.rd hp.rd)) rfl rfl rfl ?_
  refine gj_step (y_move rfl) rfl rfl rfl (?_)
  refine gj_g 3 28 31 rfl rfl rfl rfl (fun hg28 => gj_yes rfl rfl rfl (y_move rfl) rfl rfl (gj_yes rfl rfl rfl (y_move rfl) rfl rfl (gj_yes rfl rfl rfl (y_eql rfl rfl) rfl rfl (gj_nil rfl)))) ?_
  refine gj_step (y_and rfl rfl rfl) rfl rfl rfl (gj_step (y_move rfl) rfl rfl rfl (?_))
  refine gj_g 1 33 34 rfl rfl rfl rfl (fun hg33 => gj_yes rfl rfl rfl (y_call Tryz.call9 rfl (fun w hp => k_works w)) rfl rfl (gj_nil rfl)) ?_
  refine gj_step (y_and rfl rfl rfl) rfl rfl rfl (gj_step (y_assign rfl) rfl rfl rfl (?_))
  refine gj_nil ?_
  refine ej_th (cj_ret ?_)
  exact ej_ret1 rfl Tryz.results4 rfl (fun w' hp => ⟨by simp, hp.below⟩)

end Go.Proofs.YtomidcehahdmbaaGreat
