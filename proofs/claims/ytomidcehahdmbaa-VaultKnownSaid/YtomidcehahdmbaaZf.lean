/- Texts of ours, joined: 10 of them. Conditions: none. -/
import Derived.Test.YtomidcehahdmbaaZe
namespace Go.Proofs.Ytomidcehahdmbaa
open Go.Sx Go.RowKit Vm
set_option maxRecDepth 20000
theorem k_room (s : StrV) (n : Int) (w : World) (hs : StrRd w s) : Calls Try.prog 57 #[.agg #[.slice s.Ar s.rooms.length s.cr, .slice s.Ag s.gates.length s.cg, .slice s.As s.staff.length s.cs], .int .i64 n] w (fun e w' => e = .returned (.int .i64 (roomE s n)) ∧ Grow w w') := by
  have hlr := hs.rooms.len
  refine enter_pure (args := [.agg #[.slice s.Ar s.rooms.length s.cr, .slice s.Ag s.gates.length s.cg, .slice s.As s.staff.length s.cs], .int .i64 n]) [] Try.func57 rfl (by rw [Try.ntmps57]; simp) (by simp) ?_
  refine cj_seq (cj_region ?_)
  refine oj_box rfl rfl rfl (fun b2 => ?_)
  refine oj_step (y_assign rfl) rfl rfl rfl ?_
  refine oj_nil ?_
  refine ej_th (cj_seq (cj_seq ?_))
  refine cj_regionG ?_
  refine gj_step (y_loadN Try.isAgg26 Try.sizeOf26 rfl) rfl rfl rfl (?_)
  refine gj_step (y_call Try.call15 rfl (fun w hp => k_Check s w (hs.mono hp.below))) rfl rfl rfl ?_
  refine gj_step (y_assign rfl) rfl rfl rfl (?_)
  refine gj_nil ?_
  refine ej_th (cj_seq ?_)
  refine cj_regionG (gj_step (y_move rfl) rfl rfl rfl (gj_step (y_neq rfl rfl) rfl rfl rfl (gj_nil ?_)))
  refine ej_th ?_
  refine cj_cond rfl (fun h9 => ?_) (fun h9 => ?_)
  · have h9b := h9
    try simp only [sxb] at h9
    have hb := (strE_f h9).1
    have h40 := (strE_f h9).2
    refine cj_seq ?_
    refine cj_regionG (gj_step (y_move rfl) rfl rfl rfl (gj_step (y_assign rfl) rfl rfl rfl (gj_nil ?_)))
    refine ej_th (cj_ret (ej_then_ret ?_))
    refine ej_ret1 rfl Try.results57 rfl (fun w' hp => ⟨?_, hp.below⟩)
    rw [room_40 hb, h40]
  · have h9b := h9
    try simp only [sxb] at h9
    have hb := strE_t (by simpa using h9)
    refine cj_skip (ej_th (cj_seq (cj_seq ?_)))
    refine cj_regionG ?_
    refine gj_step (y_move rfl) rfl rfl rfl (gj_step (y_fa0 fa26_0 rfl) rfl rfl rfl (gj_step (y_load1 Try.isAgg22 rfl rfl) rfl rfl rfl (gj_step (y_lenA Try.underlying22 rfl) rfl rfl rfl (gj_step (y_sub rfl rfl (by omega)) rfl rfl rfl (?_)))))
    refine gj_step (y_call Try.call46 rfl (fun w hp => k_within _ _ _ w)) rfl rfl rfl ?_
    refine gj_step (y_not rfl) rfl rfl rfl (?_)
    refine gj_nil ?_
    refine ej_th ?_
    refine cj_cond rfl (fun h17 => ?_) (fun h17 => ?_)
    · have h17b := h17
      try simp only [sxb] at h17
      refine cj_seq ?_
      refine cj_regionG (gj_step (y_assign rfl) rfl rfl rfl (gj_nil ?_))
      refine ej_th (cj_ret (ej_then_ret ?_))
      refine ej_ret1 rfl Try.results57 rfl (fun w' hp => ⟨?_, hp.below⟩)
      rw [room_7 hb (not_t h17b)]
    · have h17b := h17
      try simp only [sxb] at h17
      refine cj_skip (ej_th (cj_seq ?_))
      refine cj_regionG (gj_step (y_assign rfl) rfl rfl rfl (gj_nil ?_))
      refine ej_th (cj_ret ?_)
      refine ej_ret1 rfl Try.results57 rfl (fun w' hp => ⟨?_, hp.below⟩)
      rw [room_0 hb (not_f h17b)]

theorem k_Groups (s : StrV) (n : Int) (w : World) (hs : StrRd w s) : Calls Try.prog 20 #[.agg #[.slice s.Ar s.rooms.length s.cr, .slice s.Ag s.gates.length s.cg, .slice s.As s.staff.length s.cs], .int .i64 n] w (fun e w' => ∃ A c, e = .returned (.tuple #[.slice A (intsL (grpsV s n)).length c, .int .i64 (roomE s n)]) ∧ Grow w w' ∧ Res w w' 1 enInt A (intsL (grpsV s n))) := by
  refine enter_pure (args := [.agg #[.slice s.Ar s.rooms.length s.cr, .slice s.Ag s.gates.length s.cg, .slice s.As s.staff.length s.cs], .int .i64 n]) [] Try.func20 rfl (by rw [Try.ntmps20]; simp) (by simp) ?_
  refine cj_seq (cj_region ?_)
  refine oj_box rfl rfl rfl (fun b2 => ?_)
  refine oj_step (y_assign rfl) rfl rfl rfl ?_
  refine oj_step (y_assign rfl) rfl rfl rfl ?_
  refine oj_nil ?_
  refine ej_th (cj_seq (cj_seq ?_))
  refine cj_regionG ?_
  refine gj_step (y_loadN Try.isAgg26 Try.sizeOf26 rfl) rfl rfl rfl (gj_step (y_move rfl) rfl rfl rfl (?_))
  refine gj_step (y_call Try.call57 rfl (fun w hp => k_room s n w (hs.mono hp.below))) rfl rfl rfl ?_
  refine gj_step (y_assign rfl) rfl rfl rfl (?_)
  refine gj_nil ?_
  refine ej_th (cj_seq ?_)
  refine cj_regionG (gj_step (y_move rfl) rfl rfl rfl (gj_step (y_neq rfl rfl) rfl rfl rfl (gj_nil ?_)))
  refine ej_th ?_
  refine cj_cond rfl (fun h11 => ?_) (fun h11 => ?_)
  · have h11b := h11
    try simp only [sxb] at h11
    refine cj_seq ?_
    refine cj_regionG (gj_step (y_move rfl) rfl rfl rfl (gj_step (y_assign rfl) rfl rfl rfl (gj_step (y_assign rfl) rfl rfl rfl (gj_nil ?_))))
    refine ej_th (cj_ret (ej_then_ret ?_))
    exact ej_ret2 rfl Try.results20 rfl rfl (fun w' hp => ⟨none, 0, by rw [grpsV, if_neg h11]; rfl, hp.below, by rw [show intsL (grpsV s n) = [] by rw [grpsV, if_neg h11]; rfl]; exact Res.nil⟩)
  · have h11b := h11
    try simp only [sxb] at h11
    have h0 : roomE s n = 0 := by simpa using h11
    obtain ⟨hb, hn0, hnr, hn5⟩ := room_ok h0
    obtain ⟨m, hm⟩ : ∃ m : Nat, n = m := ⟨n.toNat, by omega⟩
    subst hm
    rw [Int.toNat_natCast] at hn5
    have hV : grpsV s m = groupsV s.s m := by rw [grpsV, if_pos h0]; rfl
    refine cj_skip (ej_th (cj_seq (cj_region ?_)))
    refine oj_step (y_loadN Try.isAgg26 Try.sizeOf26 rfl) rfl rfl rfl ?_
    refine oj_step (y_move rfl) rfl rfl rfl ?_
    refine oj_callS (fun A c => .slice A (intsL (groupsV s.s m)).length c) 1 enInt (intsL (groupsV s.s m)) Try.call58 rfl (fun w hp => k_groups s m w (hs.mono hp.below) hb (by omega)) rfl (fun A15 c15 fp15 hfp15 => ?_)
    refine oj_step (y_assign rfl) rfl rfl rfl ?_
    refine oj_step (y_assign rfl) rfl rfl rfl ?_
    refine oj_nil ?_
    refine ej_th (cj_ret ?_)
    exact ej_ret2 rfl Try.results20 rfl rfl (fun w' hp => ⟨A15, c15, by rw [hV, h0], hp.below, by rw [hV]; exact hp.resS (fun b hb => hfp15 b hb)⟩)

theorem k_Guards (s : StrV) (n : Int) (w : World) (hs : StrRd w s) : Calls Try.prog 23 #[.agg #[.slice s.Ar s.rooms.length s.cr, .slice s.Ag s.gates.length s.cg, .slice s.As s.staff.length s.cs], .int .i64 n] w (fun e w' => ∃ A c, e = .returned (.tuple #[.slice A (intsL (grdsV s n)).length c, .int .i64 (roomE s n)]) ∧ Grow w w' ∧ Res w w' 1 enInt A (intsL (grdsV s n))) := by
  refine enter_pure (args := [.agg #[.slice s.Ar s.rooms.length s.cr, .slice s.Ag s.gates.length s.cg, .slice s.As s.staff.length s.cs], .int .i64 n]) [] Try.func23 rfl (by rw [Try.ntmps23]; simp) (by simp) ?_
  refine cj_seq (cj_region ?_)
  refine oj_box rfl rfl rfl (fun b2 => ?_)
  refine oj_box rfl rfl rfl (fun b3 => ?_)
  refine oj_step (y_assign rfl) rfl rfl rfl ?_
  refine oj_step (y_assign rfl) rfl rfl rfl ?_
  refine oj_nil ?_
  refine ej_th (cj_seq (cj_seq ?_))
  refine cj_regionG ?_
  refine gj_step (y_loadN Try.isAgg26 Try.sizeOf26 rfl) rfl rfl rfl (gj_step (y_load1 Try.isAgg3 rfl rfl) rfl rfl rfl (?_))
  refine gj_step (y_call Try.call57 rfl (fun w hp => k_room s n w (hs.mono hp.below))) rfl rfl rfl ?_
  refine gj_step (y_assign rfl) rfl rfl rfl (?_)
  refine gj_nil ?_
  refine ej_th (cj_seq ?_)
  refine cj_regionG (gj_step (y_move rfl) rfl rfl rfl (gj_step (y_neq rfl rfl) rfl rfl rfl (gj_nil ?_)))
  refine ej_th ?_
  refine cj_cond rfl (fun h12 => ?_) (fun h12 => ?_)
  · have h12b := h12
    try simp only [sxb] at h12
    refine cj_seq ?_
    refine cj_regionG (gj_step (y_move rfl) rfl rfl rfl (gj_step (y_assign rfl) rfl rfl rfl (gj_step (y_assign rfl) rfl rfl rfl (gj_nil ?_))))
    refine ej_th (cj_ret (ej_then_ret ?_))
    exact ej_ret2 rfl Try.results23 rfl rfl (fun w' hp => ⟨none, 0, by rw [grdsV, if_neg h12]; rfl, hp.below, by rw [show intsL (grdsV s n) = [] by rw [grdsV, if_neg h12]; rfl]; exact Res.nil⟩)
  · have h12b := h12
    try simp only [sxb] at h12
    have h0 : roomE s n = 0 := by simpa using h12
    obtain ⟨hb, hn0, hnr, hn5⟩ := room_ok h0
    obtain ⟨m, hm⟩ : ∃ m : Nat, n = m := ⟨n.toNat, by omega⟩
    subst hm
    rw [Int.toNat_natCast] at hn5
    have hV : grdsV s m = guardsV s.s m := by rw [grdsV, if_pos h0]; rfl
    have hst := staff_le hb
    have hsl : (guardL s.s m).length ≤ 64 := Nat.le_trans (rng_len _ _) hst
    have hok := StrOk.of hb
    have hnr := hok.nr
    have hng := hok.ng
    have hns := hok.ns
    have hp6 : 2 ^ s.staff.length ≤ 64 := pow_le64 hns.2
    have hpo : 0 < 2 ^ s.staff.length := Nat.two_pow_pos _
    have hal : ((2 ^ s.staff.length : Nat) : Int) - 1 = (allN s.s : Nat) := by show _ = ((2 ^ s.staff.length - 1 : Nat) : Int); omega
    refine cj_skip (ej_th (cj_seq (cj_region ?_)))
    refine oj_step (y_fa fa26_2 rfl) rfl rfl rfl ?_
    refine oj_step (y_load1 Try.isAgg24 rfl rfl) rfl rfl rfl ?_
    refine oj_step (y_lenA Try.underlying24 rfl) rfl rfl rfl ?_
    refine oj_step (y_shl1 rfl rfl (by omega)) rfl rfl rfl ?_
    refine oj_step (y_sub rfl rfl (by omega)) rfl rfl rfl ?_
    refine oj_alloc Try.zeroValue3 rfl rfl (fun b7 => ?_)
    refine oj_store rfl rfl rfl rfl Try.sizeOf3 rfl ?_
    refine oj_nil ?_
    refine ej_th (cj_seq ?_)
    rw [hal]
    refine cj_region ?_
    refine oj_step (y_loadN Try.isAgg26 Try.sizeOf26 rfl) rfl rfl rfl ?_
    refine oj_step (y_makeFunc rfl rfl) rfl rfl rfl ?_
    refine oj_callS (fun A c => .slice A (intsL (guardL s.s m)).length c) 1 enInt (intsL (guardL s.s m)) Try.call62 rfl (fun w hp => k_sets s 63 #[.pointer (some ⟨b2, 0, none⟩), .pointer (some ⟨b7, 0, none⟩), .pointer (some ⟨b3, 0, none⟩)] (guardB s.s m) w hb Try.call63 (fun g hg w1 hgr => k_gd1 s g m b2 b7 b3 w1 ((hs.mono hp.below).mono hgr) hb (Nat.lt_of_lt_of_le hg hst) (by omega) ((hp.grow hgr).own1) ((hp.grow hgr).own1) ((hp.grow hgr).own1))) rfl (fun A21 c21 fp21 hfp21 => ?_)
    refine oj_callS (fun A c => .slice A (intsL (minL (guardL s.s m))).length c) 1 enInt (intsL (minL (guardL s.s m))) Try.call61 rfl (fun w hp => k_leastSets (guardL s.s m) A21 c21 w hp.rd (sets_lt hb) (by omega)) rfl (fun A22 c22 fp22 hfp22 => ?_)
    refine oj_step (y_assign rfl) rfl rfl rfl ?_
    refine oj_step (y_assign rfl) rfl rfl rfl ?_
    refine oj_nil ?_
    refine ej_th (cj_ret ?_)
    exact ej_ret2 rfl Try.results23 rfl rfl (fun w' hp => ⟨A22, c22, by rw [hV, h0]; rfl, hp.below, by rw [hV]; exact hp.resS (fun b hb => hfp22 b hb)⟩)

theorem k_rreaching (s : StrV) (m : Nat) (w : World) (hs : StrRd w s) (hb : strB s.s = true) (hm : m ≤ 6) : Calls Try.prog 60 #[.agg #[.slice s.Ar s.rooms.length s.cr, .slice s.Ag s.gates.length s.cg, .slice s.As s.staff.length s.cs], .int .i64 (m : Nat)] w (fun e w' => ∃ A c, e = .returned (.slice A (intsL (reachL s.s m)).length c) ∧ Grow w w' ∧ Res w w' 1 enInt A (intsL (reachL s.s m))) := by
  have hok := StrOk.of hb
  have hnr := hok.nr
  have hng := hok.ng
  have hns := hok.ns
  have hp6 : 2 ^ s.staff.length ≤ 64 := pow_le64 hns.2
  have hpo : 0 < 2 ^ s.staff.length := Nat.two_pow_pos _
  refine enter_pure (args := [.agg #[.slice s.Ar s.rooms.length s.cr, .slice s.Ag s.gates.length s.cg, .slice s.As s.staff.length s.cs], .int .i64 (m : Nat)]) [sl (fun b => b < w.heap.size) 3 encRo s.Ar s.rooms, sl (fun b => b < w.heap.size) 4 encGa s.Ag s.gates, sl (fun b => b < w.heap.size) 1 enInt s.As s.staff] Try.func60 rfl (by rw [Try.ntmps60]; simp) (fun g hg => by simp at hg; rcases hg with rfl | rfl | rfl; exact ⟨hs.rooms, fun _ h => h⟩; exact ⟨hs.gates, fun _ h => h⟩; exact ⟨hs.staff, fun _ h => h⟩) ?_
  refine cj_seq (cj_region ?_)
  refine oj_box rfl rfl rfl (fun b2 => ?_)
  refine oj_step (y_assign rfl) rfl rfl rfl ?_
  refine oj_nil ?_
  refine ej_th (cj_seq ?_)
  refine cj_regionG (gj_step (y_assign rfl) rfl rfl rfl (gj_nil ?_))
  refine ej_th (cj_seq (cj_seq ?_))
  refine cj_regionG (gj_step (y_assign rfl) rfl rfl rfl (gj_nil ?_))
  refine ej_th (cj_block ?_)
  refine cj_ownNil 3 1 enInt ?_
  refine cj_lpi (X := Nat × Option Addr × Nat × List Int) [(1, _), (2, _), (4, _)] (fun ⟨k, A1, c1, xs⟩ => k ≤ 2 ^ s.staff.length ∧ xs = intsL ((List.range k).filter fun g => (reachV s.s g).testBit m)) (fun ⟨k, A1, c1, xs⟩ => [(5, .slice A1 xs.length c1), (6, .int .i64 (k : Nat))]) (fun ⟨k, A1, c1, xs⟩ => [ow 3 1 enInt A1 c1 xs, ownB b2 (cellsB 26 [.slice s.Ar s.rooms.length s.cr, .slice s.Ag s.gates.length s.cg, .slice s.As s.staff.length s.cs])]) (fun ⟨k, A1, c1, xs⟩ => [sl (fun b => b < w.heap.size) 3 encRo s.Ar s.rooms, sl (fun b => b < w.heap.size) 4 encGa s.Ag s.gates, sl (fun b => b < w.heap.size) 1 enInt s.As s.staff]) (fun ⟨k, A1, c1, xs⟩ => 2 ^ s.staff.length - k) (0, none, 0, []) (⟨Nat.zero_le _, rfl⟩) ⟨rfl, rfl, rfl, rfl, rfl, trivial⟩ ?_
  rintro ⟨k, A1, c1, xs⟩ ⟨hk, hxs⟩
  dsimp only [List.cons_append, List.nil_append]
  refine cj_seq (cj_seq ?_)
  refine cj_regionG (gj_step (y_move rfl) rfl rfl rfl (gj_step (y_fa fa26_2 rfl) rfl rfl rfl (gj_step (y_load1 Try.isAgg24 rfl rfl) rfl rfl rfl (gj_step (y_lenA Try.underlying24 rfl) rfl rfl rfl (gj_step (y_shl1 rfl rfl (by omega)) rfl rfl rfl (gj_step (y_lss rfl rfl) rfl rfl rfl (gj_nil ?_)))))))
  refine ej_th ?_
  refine cj_cond rfl (fun h12 => ?_) (fun h12 => ?_)
  · have h12b := h12
    try simp only [sxb] at h12
    have hxl := rng_len (fun g => (reachV s.s g).testBit m) k
    have hxi : xs.length ≤ 64 := by rw [hxs, enC]; omega
    refine cj_skip (ej_th (cj_seq (cj_block (cj_seq ?_))))
    refine cj_regionG ?_
    refine gj_step (y_loadN Try.isAgg26 Try.sizeOf26 rfl) rfl rfl rfl (gj_step (y_move rfl) rfl rfl rfl (?_))
    refine gj_step (y_call Try.call45 rfl (fun w hp => k_renter s k w (hs.mono hp.below) hb (by omega))) rfl rfl rfl ?_
    refine gj_step (y_move rfl) rfl rfl rfl (?_)
    refine gj_step (y_call Try.call29 rfl (fun w hp => k_Bit _ m w (by omega))) rfl rfl rfl ?_
    refine gj_nil ?_
    refine ej_th ?_
    refine cj_cond rfl (fun h19 => ?_) (fun h19 => ?_)
    · have h19b := h19
      try simp only [sxb] at h19
      refine cj_region ?_
      refine oj_step (y_move rfl) rfl rfl rfl ?_
      refine oj_step (y_move rfl) rfl rfl rfl ?_
      refine oj_buildSlice (cs := [.int .i64 (k : Nat)]) [.int .i64 0] Try.underlying24 Try.sizeOf3 Try.zeroValue3 rfl rfl (by kernel_rfl) (by kernel_rfl) rfl (fun b22 => ?_)
      refine oj_append  el24 (fun _ => rfl) enInt_one rfl rfl rfl (reads_lit [((k : Nat) : Int)] (fun _ => rfl) rfl) (by unfold maxLen; simp only [List.length_append, List.length_cons, List.length_nil]; omega) (by simp only [List.length_append, List.length_cons, List.length_nil]; omega) rfl (fun A23 c23 => ?_)
      refine oj_step (y_assign rfl) rfl rfl rfl ?_
      refine oj_nil ?_
      refine ej_blk (ej_th ?_)
      refine cj_regionG (gj_step (y_move rfl) rfl rfl rfl (gj_step (y_add rfl rfl (by omega)) rfl rfl rfl (gj_step (y_assign rfl) rfl rfl rfl (gj_nil ?_))))
      exact ej_nx (k + 1, A23, c23, xs ++ [((k : Nat) : Int)]) (by first | omega | (simp only; omega)) ⟨by first | omega | (simp only; omega), by rw [hxs, rng_t (p := fun g => (reachV s.s g).testBit m) h19b]; simp⟩ ⟨rfl, rfl, rfl, rfl, rfl, trivial⟩
    · have h19b := h19
      try simp only [sxb] at h19
      refine cj_skip (ej_blk (ej_th ?_))
      refine cj_regionG (gj_step (y_move rfl) rfl rfl rfl (gj_step (y_add rfl rfl (by omega)) rfl rfl rfl (gj_step (y_assign rfl) rfl rfl rfl (gj_nil ?_))))
      exact ej_nx (k + 1, A1, c1, xs) (by first | omega | (simp only; omega)) ⟨by first | omega | (simp only; omega), by rw [hxs, rng_f (p := fun g => (reachV s.s g).testBit m) h19b]⟩ ⟨rfl, rfl, rfl, rfl, rfl, trivial⟩
  · have h12b := h12
    try simp only [sxb] at h12
    have hke : k = 2 ^ s.staff.length := by omega
    subst hke
    refine cj_exit (ej_then_exit (ej_then_exit (ej_blk_hit (ej_th (cj_seq ?_)))))
    refine cj_regionG (gj_step (y_move rfl) rfl rfl rfl (gj_step (y_assign rfl) rfl rfl rfl (gj_nil ?_)))
    refine ej_th (cj_ret ?_)
    exact ej_ret1 rfl Try.results60 rfl (fun w' hp => ⟨A1, c1, by rw [hxs]; rfl, hp.below, by rw [show intsL (reachL s.s m) = xs from hxs.symm]; exact hp.res (fun _ => rfl) (by have := rng_len (fun g => (reachV s.s g).testBit m) (2 ^ s.staff.length); rw [hxs, enC]; unfold maxLen; omega)⟩)

theorem k_rLeast (l : List Nat) (A : Option Addr) (c : Nat) (w : World) (hl : Rd w 1 enInt A (intsL l)) (h64 : ∀ x ∈ l, x < 64) : Calls Try.prog 59 #[.slice A (intsL l).length c] w (fun e w' => ∃ A c, e = .returned (.slice A (intsL (minL l)).length c) ∧ Grow w w' ∧ Res w w' 1 enInt A (intsL (minL l))) := by
  refine enter_pure (args := [.slice A (intsL l).length c]) [sl (fun b => b < w.heap.size) 1 enInt A (intsL l)] Try.func59 rfl (by rw [Try.ntmps59]; simp) (fun g hg => by simp at hg; subst hg; exact ⟨hl, fun _ h => h⟩) ?_
  refine cj_seq ?_
  refine cj_regionG (gj_step (y_assign rfl) rfl rfl rfl (gj_nil ?_))
  refine ej_th (cj_seq ?_)
  refine cj_regionG (gj_step (y_assign rfl) rfl rfl rfl (gj_nil ?_))
  refine ej_th (cj_seq (cj_seq ?_))
  refine cj_regionG (gj_step (y_assign rfl) rfl rfl rfl (gj_nil ?_))
  refine ej_th (cj_block ?_)
  refine cj_ownNil 3 1 enInt ?_
  refine cj_lpi (X := Nat × Option Addr × Nat × List Int) [(0, _), (2, _)] (fun ⟨n, A1, c1, xs⟩ => n ≤ 7 ∧ xs = intsL (outG l n)) (fun ⟨n, A1, c1, xs⟩ => [(3, .slice A1 xs.length c1), (4, .int .i64 (n : Nat))]) (fun ⟨n, A1, c1, xs⟩ => [ow 3 1 enInt A1 c1 xs]) (fun ⟨n, A1, c1, xs⟩ => [sl (fun b => b < w.heap.size) 1 enInt A (intsL l)]) (fun ⟨n, A1, c1, xs⟩ => 7 - n) (0, none, 0, []) (⟨Nat.zero_le _, rfl⟩) ⟨rfl, rfl, rfl, rfl, trivial⟩ ?_
  rintro ⟨n, A1, c1, xs⟩ ⟨hn, hxs⟩
  dsimp only [List.cons_append, List.nil_append]
  refine cj_seq (cj_seq ?_)
  refine cj_regionG (gj_step (y_move rfl) rfl rfl rfl (gj_step (y_leq rfl rfl) rfl rfl rfl (gj_nil ?_)))
  refine ej_th ?_
  refine cj_cond rfl (fun h9 => ?_) (fun h9 => ?_)
  · have h9b := h9
    try simp only [sxb] at h9
    refine cj_skip (ej_th (cj_seq (cj_block (cj_seq ?_))))
    refine cj_regionG (gj_step (y_assign rfl) rfl rfl rfl (gj_nil ?_))
    refine ej_th (cj_block ?_)
    refine cj_lpi (X := Nat × Option Addr × Nat × List Int) [(4, _), (0, _), (2, _)] (fun ⟨t, A1, c1, xs⟩ => t ≤ 64 ∧ xs = intsL (outH l n t)) (fun ⟨t, A1, c1, xs⟩ => [(3, .slice A1 xs.length c1), (5, .int .i64 (t : Nat))]) (fun ⟨t, A1, c1, xs⟩ => [ow 3 1 enInt A1 c1 xs]) (fun ⟨t, A1, c1, xs⟩ => [sl (fun b => b < w.heap.size) 1 enInt A (intsL l)]) (fun ⟨t, A1, c1, xs⟩ => 64 - t) (0, A1, c1, xs) (⟨Nat.zero_le _, hxs⟩) ⟨rfl, rfl, rfl, rfl, rfl, trivial⟩ ?_
    rintro ⟨t, A1, c1, xs⟩ ⟨ht, hxs⟩
    dsimp only [List.cons_append, List.nil_append]
    refine cj_seq (cj_seq ?_)
    refine cj_regionG (gj_step (y_move rfl) rfl rfl rfl (gj_step (y_lss rfl rfl) rfl rfl rfl (gj_nil ?_)))
    refine ej_th ?_
    refine cj_cond rfl (fun h13 => ?_) (fun h13 => ?_)
    · have h13b := h13
      try simp only [sxb] at h13
      have hos := outH_s l n t
      have hul := outH_len l n t (by omega)
      have hu64 := outH_lt l n t (by omega)
      obtain ⟨us, hus⟩ : ∃ us, us = outH l n t := ⟨_, rfl⟩
      rw [← hus] at hos hxs hul hu64
      have hxl : xs.length ≤ 512 := by rw [hxs, enC]; omega
      refine cj_skip (ej_th (cj_seq (cj_block (cj_seq (cj_seq ?_)))))
      refine cj_regionG ?_
      refine gj_step (y_move rfl) rfl rfl rfl (?_)
      refine gj_step (y_call Try.call78 rfl (fun w hp => k_people t w (by omega))) rfl rfl rfl ?_
      refine gj_step (y_move rfl) rfl rfl rfl (gj_step (y_neq rfl rfl) rfl rfl rfl (gj_step (y_move rfl) rfl rfl rfl (?_)))
      refine gj_g 4 20 24 rfl rfl rfl rfl (fun hg20 => gj_yes rfl rfl rfl (y_move rfl) rfl rfl (gj_yes rfl rfl rfl (y_move rfl) rfl rfl (gj_yes rfl rfl rfl (y_call Try.call79 rfl (fun w hp => k_Seek (intsL l) (t : Nat) A c w hp.rd)) rfl rfl (gj_yes rfl rfl rfl (y_lss rfl rfl) rfl rfl (gj_nil rfl))))) ?_
      refine gj_step (y_or rfl rfl rfl) rfl rfl rfl (?_)
      refine gj_nil ?_
      refine ej_th ?_
      refine cj_cond rfl (fun h25 => ?_) (fun h25 => ?_)
      · have h25b := h25
        try simp only [sxb] at h25
        have hn3 : outH l n (t + 1) = us := by
          rw [hos]
          split
          · rename_i hpe
            rw [stpG_no]
            rw [hpe, bne_self_eq_false, Bool.false_or, lt0_V, seek_has _ _ 0 (Int.le_refl _), ints_has] at h25b
            exact not_t h25b
          · rfl
        refine cj_exit (ej_then_exit (ej_blk_hit (ej_th ?_)))
        refine cj_regionG (gj_step (y_move rfl) rfl rfl rfl (gj_step (y_add rfl rfl (by omega)) rfl rfl rfl (gj_step (y_assign rfl) rfl rfl rfl (gj_nil ?_))))
        exact ej_nx (t + 1, A1, c1, xs) (by first | omega | (simp only; omega)) ⟨by first | omega | (simp only; omega), by rw [hn3]; exact hxs⟩ ⟨rfl, rfl, rfl, rfl, rfl, trivial⟩
      · have h25b := h25
        try simp only [sxb] at h25
        rw [Bool.or_eq_false_iff] at h25b
        have hpe : popc t = n := by have := h25b.1; simp at this; omega
        have hin : l.contains t = true := by
          have h9 := h25b.2
          rw [lt0_V, seek_has _ _ 0 (Int.le_refl _), ints_has] at h9
          exact not_f h9
        rw [if_pos hpe] at hos
        refine cj_skip (ej_th (cj_seq ?_))
        refine cj_regionG (gj_step (y_assign rfl) rfl rfl rfl (gj_nil ?_))
        refine ej_th (cj_seq (cj_seq ?_))
        refine cj_regionG (gj_step (y_assign rfl) rfl rfl rfl (gj_nil ?_))
        refine ej_th (cj_block ?_)
        have hule : us.length = xs.length := by rw [hxs, enC]
        refine cj_lpic (X := Nat × Bool) [(3, _), (5, _), (4, _), (0, _), (2, _)] (fun ⟨j, b⟩ => j ≤ xs.length ∧ (b && (us.drop j).all fun y => !hasN t y) = us.all fun y => !hasN t y) (fun ⟨j, b⟩ => [(6, .bool b), (7, .int .i64 (j : Nat))]) (fun ⟨j, b⟩ => xs.length - j) (0, true) (⟨Nat.zero_le _, rfl⟩) ⟨rfl, rfl, rfl, rfl, rfl, rfl, rfl, trivial⟩ ?_
        rintro ⟨j, b⟩ ⟨hj, hsj⟩
        dsimp only [List.cons_append, List.nil_append]
        refine cj_seq (cj_seq ?_)
        refine cj_regionG (gj_step (y_move rfl) rfl rfl rfl (gj_step (y_move rfl) rfl rfl rfl (gj_step (y_lenA Try.underlying24 rfl) rfl rfl rfl (gj_step (y_lss rfl rfl) rfl rfl rfl (gj_nil ?_)))))
        refine ej_th ?_
        refine cj_cond rfl (fun h29 => ?_) (fun h29 => ?_)
        · have h29b := h29
          try simp only [sxb] at h29
          obtain ⟨y, hyu⟩ : ∃ y, us[j]? = some y := ⟨_, List.getElem?_eq_getElem (by omega)⟩
          have hy : xs[j]? = some ((y : Nat) : Int) := by rw [hxs]; exact get_ints hyu
          have hy64 := hu64 y (List.mem_of_getElem? hyu)
          rw [all_drop _ us j y hyu, ← Bool.and_assoc] at hsj
          refine cj_skip (ej_th (cj_seq (cj_block ?_)))
          refine cj_regionG ?_
          refine gj_step (y_move rfl) rfl rfl rfl (gj_step (y_move rfl) rfl rfl rfl (?_))
          refine gj_g 7 33 40 rfl rfl rfl rfl (fun hg33 => gj_yes rfl rfl rfl (y_move rfl) rfl rfl (gj_yes rfl rfl rfl (y_move rfl) rfl rfl (gj_yes rfl rfl rfl (y_move rfl) rfl rfl (gj_yes rfl rfl rfl (y_ixR (reads_owI) Try.underlying24 Try.sizeOf3 rfl rfl (⟨by omega, by omega⟩)) rfl rfl (gj_yes rfl rfl rfl (y_ld0 (reads_owI) Try.isAgg3 rfl (hy) rfl) rfl rfl (gj_yes rfl rfl rfl (y_call Try.call80 rfl (fun w hp => k_rHas t y w (by omega))) rfl rfl (gj_yes rfl rfl rfl (y_not rfl) rfl rfl (gj_nil rfl)))))))) ?_
          refine gj_step (y_and rfl rfl rfl) rfl rfl rfl (gj_step (y_assign rfl) rfl rfl rfl (?_))
          refine gj_nil ?_
          refine ej_blk (ej_th ?_)
          refine cj_regionG (gj_step (y_move rfl) rfl rfl rfl (gj_step (y_add rfl rfl (by omega)) rfl rfl rfl (gj_step (y_assign rfl) rfl rfl rfl (gj_nil ?_))))
          exact ej_nx (j + 1, b && !hasN t y) (by first | omega | (simp only; omega)) ⟨by first | omega | (simp only; omega), hsj⟩ ⟨rfl, rfl, rfl, rfl, rfl, rfl, rfl, trivial⟩
        · have h29b := h29
          try simp only [sxb] at h29
          rw [List.drop_of_length_le (by omega), List.all_nil, Bool.and_true] at hsj
          subst hsj
          refine cj_exit (ej_then_exit (ej_then_exit (ej_blk_hit (ej_th (cj_seq ?_)))))
          refine cj_regionG (gj_step (y_move rfl) rfl rfl rfl (gj_nil ?_))
          refine ej_th ?_
          refine cj_cond rfl (fun h42 => ?_) (fun h42 => ?_)
          · have h42b := h42
            try simp only [sxb] at h42
            have hn3 : outH l n (t + 1) = us ++ [t] := by rw [hos]; exact stpG_add hin h42b
            refine cj_region ?_
            refine oj_step (y_move rfl) rfl rfl rfl ?_
            refine oj_step (y_move rfl) rfl rfl rfl ?_
            refine oj_buildSlice (cs := [.int .i64 (t : Nat)]) [.int .i64 0] Try.underlying24 Try.sizeOf3 Try.zeroValue3 rfl rfl (by kernel_rfl) (by kernel_rfl) rfl (fun b45 => ?_)
            refine oj_append  el24 (fun _ => rfl) enInt_one rfl rfl rfl (reads_lit [((t : Nat) : Int)] (fun _ => rfl) rfl) (by unfold maxLen; simp only [List.length_append, List.length_cons, List.length_nil]; omega) (by simp only [List.length_append, List.length_cons, List.length_nil]; omega) rfl (fun A46 c46 => ?_)
            refine oj_step (y_assign rfl) rfl rfl rfl ?_
            refine oj_nil ?_
            refine ej_blk (ej_th ?_)
            refine cj_regionG (gj_step (y_move rfl) rfl rfl rfl (gj_step (y_add rfl rfl (by omega)) rfl rfl rfl (gj_step (y_assign rfl) rfl rfl rfl (gj_nil ?_))))
            exact ej_nx (t + 1, A46, c46, xs ++ [((t : Nat) : Int)]) (by first | omega | (simp only; omega)) ⟨by first | omega | (simp only; omega), by rw [hn3, hxs]; simp⟩ ⟨rfl, rfl, rfl, rfl, rfl, trivial⟩
          · have h42b := h42
            try simp only [sxb] at h42
            have hn3 : outH l n (t + 1) = us := by rw [hos]; exact stpG_in h42b
            refine cj_skip (ej_blk (ej_th ?_))
            refine cj_regionG (gj_step (y_move rfl) rfl rfl rfl (gj_step (y_add rfl rfl (by omega)) rfl rfl rfl (gj_step (y_assign rfl) rfl rfl rfl (gj_nil ?_))))
            exact ej_nx (t + 1, A1, c1, xs) (by first | omega | (simp only; omega)) ⟨by first | omega | (simp only; omega), by rw [hn3]; exact hxs⟩ ⟨rfl, rfl, rfl, rfl, rfl, trivial⟩
    · have h13b := h13
      try simp only [sxb] at h13
      have ht : t = 64 := by omega
      subst ht
      rw [outH_end] at hxs
      refine cj_exit (ej_then_exit (ej_then_exit (ej_blk_hit (ej_blk (ej_th ?_)))))
      refine cj_regionG (gj_step (y_move rfl) rfl rfl rfl (gj_step (y_add rfl rfl (by omega)) rfl rfl rfl (gj_step (y_assign rfl) rfl rfl rfl (gj_nil ?_))))
      exact ej_nx (n + 1, A1, c1, xs) (by first | omega | (simp only; omega)) ⟨by first | omega | (simp only; omega), hxs⟩ ⟨rfl, rfl, rfl, rfl, trivial⟩
  · have h9b := h9
    try simp only [sxb] at h9
    have hn7 : n = 7 := by omega
    subst hn7
    rw [outG_end, refG_eq l h64] at hxs
    refine cj_exit (ej_then_exit (ej_then_exit (ej_blk_hit (ej_th (cj_seq ?_)))))
    refine cj_regionG (gj_step (y_move rfl) rfl rfl rfl (gj_step (y_assign rfl) rfl rfl rfl (gj_nil ?_)))
    refine ej_th (cj_ret ?_)
    exact ej_ret1 rfl Try.results59 rfl (fun w' hp => ⟨A1, c1, by rw [hxs], hp.below, by rw [← hxs]; exact hp.res (fun _ => rfl) (by have := minL_len l; rw [hxs, enC]; unfold maxLen; omega)⟩)

theorem k_meet (a b : Nat) (w : World)  : Calls Try.prog 64 #[.int .i64 (a : Nat), .int .i64 (b : Nat)] w (fun e w' => e = .returned (.bool (meetN a b)) ∧ Grow w w') := by
  refine enter_pure (args := [.int .i64 (a : Nat), .int .i64 (b : Nat)]) [] Try.func64 rfl (by rw [Try.ntmps64]; simp) (by simp) ?_
  refine cj_seq ?_
  refine cj_regionG (gj_step (y_assign rfl) rfl rfl rfl (gj_nil ?_))
  refine ej_th (cj_seq (cj_seq ?_))
  refine cj_regionG (gj_step (y_assign rfl) rfl rfl rfl (gj_nil ?_))
  refine ej_th (cj_block ?_)
  refine cj_lpic (X := Nat) [(0, _), (1, _)] (fun k => k ≤ 8 ∧ ∀ j, j < k → (a.testBit j && b.testBit j) = false) (fun k => [(5, .int .i64 (k : Nat))]) (fun k => 8 - k) 0 (⟨by omega, fun j h => absurd h (Nat.not_lt_zero _)⟩) ⟨rfl, rfl, rfl, trivial⟩ ?_
  rintro k ⟨hk, hall⟩
  dsimp only [List.cons_append, List.nil_append]
  refine cj_seq (cj_seq ?_)
  refine cj_regionG (gj_step (y_move rfl) rfl rfl rfl (gj_step (y_lss rfl rfl) rfl rfl rfl (gj_nil ?_)))
  refine ej_th ?_
  refine cj_cond rfl (fun h7 => ?_) (fun h7 => ?_)
  · have h7b := h7
    try simp only [sxb] at h7
    refine cj_skip (ej_th (cj_seq (cj_block (cj_seq ?_))))
    refine cj_regionG ?_
    refine gj_step (y_move rfl) rfl rfl rfl (gj_step (y_move rfl) rfl rfl rfl (?_))
    refine gj_step (y_call Try.call29 rfl (fun w hp => k_Bit a k w (by omega))) rfl rfl rfl ?_
    refine gj_step (y_move rfl) rfl rfl rfl (?_)
    refine gj_g 3 13 16 rfl rfl rfl rfl (fun hg13 => gj_yes rfl rfl rfl (y_move rfl) rfl rfl (gj_yes rfl rfl rfl (y_move rfl) rfl rfl (gj_yes rfl rfl rfl (y_call Try.call29 rfl (fun w hp => k_Bit b k w (by omega))) rfl rfl (gj_nil rfl)))) ?_
    refine gj_step (y_and rfl rfl rfl) rfl rfl rfl (?_)
    refine gj_nil ?_
    refine ej_th ?_
    refine cj_cond rfl (fun h17 => ?_) (fun h17 => ?_)
    · have h17b := h17
      try simp only [sxb] at h17
      refine cj_seq ?_
      refine cj_regionG (gj_step (y_assign rfl) rfl rfl rfl (gj_nil ?_))
      refine ej_th (cj_ret (ej_blk_ret (ej_then_ret (ej_then_ret (ej_blk_ret (ej_then_ret ?_))))))
      refine ej_ret1 rfl Try.results64 rfl (fun w' hp => ⟨?_, hp.below⟩)
      rw [meet_t (by omega) h17b]
    · have h17b := h17
      try simp only [sxb] at h17
      refine cj_skip (ej_blk (ej_th ?_))
      refine cj_regionG (gj_step (y_move rfl) rfl rfl rfl (gj_step (y_add rfl rfl (by omega)) rfl rfl rfl (gj_step (y_assign rfl) rfl rfl rfl (gj_nil ?_))))
      refine ej_nx (k + 1) (by omega) ⟨by omega, fun j hj => ?_⟩ ⟨rfl, rfl, rfl, trivial⟩
      by_cases e : j < k
      · exact hall j e
      · have e2 : j = k := by omega
        subst e2; exact h17b
  · have h7b := h7
    try simp only [sxb] at h7
    refine cj_exit (ej_then_exit (ej_then_exit (ej_blk_hit (ej_th (cj_seq ?_)))))
    refine cj_regionG (gj_step (y_assign rfl) rfl rfl rfl (gj_nil ?_))
    refine ej_th (cj_ret ?_)
    refine ej_ret1 rfl Try.results64 rfl (fun w' hp => ⟨?_, hp.below⟩)
    rw [meet_8 (fun j hj => hall j (by omega))]

theorem k_rGroups (s : StrV) (n : Int) (w : World) (hs : StrRd w s) : Calls Try.prog 21 #[.agg #[.slice s.Ar s.rooms.length s.cr, .slice s.Ag s.gates.length s.cg, .slice s.As s.staff.length s.cs], .int .i64 n] w (fun e w' => ∃ A c, e = .returned (.tuple #[.slice A (intsL (grpsV s n)).length c, .int .i64 (roomE s n)]) ∧ Grow w w' ∧ Res w w' 1 enInt A (intsL (grpsV s n))) := by
  have hlr := hs.rooms.len
  refine enter_pure (args := [.agg #[.slice s.Ar s.rooms.length s.cr, .slice s.Ag s.gates.length s.cg, .slice s.As s.staff.length s.cs], .int .i64 n]) [] Try.func21 rfl (by rw [Try.ntmps21]; simp) (by simp) ?_
  refine cj_seq (cj_region ?_)
  refine oj_box rfl rfl rfl (fun b2 => ?_)
  refine oj_step (y_assign rfl) rfl rfl rfl ?_
  refine oj_step (y_assign rfl) rfl rfl rfl ?_
  refine oj_nil ?_
  refine ej_th (cj_seq (cj_seq ?_))
  refine cj_regionG ?_
  refine gj_step (y_loadN Try.isAgg26 Try.sizeOf26 rfl) rfl rfl rfl (?_)
  refine gj_step (y_call Try.call16 rfl (fun w hp => k_rCheck s w (hs.mono hp.below))) rfl rfl rfl ?_
  refine gj_step (y_assign rfl) rfl rfl rfl (?_)
  refine gj_nil ?_
  refine ej_th (cj_seq ?_)
  refine cj_regionG (gj_step (y_move rfl) rfl rfl rfl (gj_step (y_neq rfl rfl) rfl rfl rfl (gj_nil ?_)))
  refine ej_th ?_
  refine cj_cond rfl (fun h10 => ?_) (fun h10 => ?_)
  · have h10b := h10
    try simp only [sxb] at h10
    have h4 := room_40 (n := n) (strE_f h10).1
    have h40 := (strE_f h10).2
    have hV : grpsV s n = [] := by rw [grpsV, h4]; rfl
    refine cj_seq ?_
    refine cj_regionG (gj_step (y_move rfl) rfl rfl rfl (gj_step (y_assign rfl) rfl rfl rfl (gj_step (y_assign rfl) rfl rfl rfl (gj_nil ?_))))
    refine ej_th (cj_ret (ej_then_ret ?_))
    exact ej_ret2 rfl Try.results21 rfl rfl (fun w' hp => ⟨none, 0, by rw [hV, h4, h40]; rfl, hp.below, by rw [hV]; exact Res.nil⟩)
  · have h10b := h10
    try simp only [sxb] at h10
    have hb := strE_t (by simpa using h10)
    refine cj_skip (ej_th (cj_seq (cj_seq ?_)))
    refine cj_regionG ?_
    refine gj_step (y_move rfl) rfl rfl rfl (gj_step (y_fa0 fa26_0 rfl) rfl rfl rfl (gj_step (y_load1 Try.isAgg22 rfl rfl) rfl rfl rfl (gj_step (y_lenA Try.underlying22 rfl) rfl rfl rfl (gj_step (y_sub rfl rfl (by omega)) rfl rfl rfl (?_)))))
    refine gj_step (y_call Try.call27 rfl (fun w hp => k_From _ _ _ w)) rfl rfl rfl ?_
    refine gj_step (y_not rfl) rfl rfl rfl (?_)
    refine gj_nil ?_
    refine ej_th ?_
    refine cj_cond rfl (fun h18 => ?_) (fun h18 => ?_)
    · have h18b := h18
      try simp only [sxb] at h18
      have h4 := room_7 hb (not_t h18b)
      have hV : grpsV s n = [] := by rw [grpsV, h4]; rfl
      refine cj_seq ?_
      refine cj_regionG (gj_step (y_assign rfl) rfl rfl rfl (gj_step (y_assign rfl) rfl rfl rfl (gj_nil ?_)))
      refine ej_th (cj_ret (ej_then_ret ?_))
      exact ej_ret2 rfl Try.results21 rfl rfl (fun w' hp => ⟨none, 0, by rw [hV, h4]; rfl, hp.below, by rw [hV]; exact Res.nil⟩)
    · have h18b := h18
      try simp only [sxb] at h18
      have h0 := room_0 hb (not_f h18b)
      obtain ⟨hb, hn0, hnr, hn5⟩ := room_ok h0
      obtain ⟨m, hm⟩ : ∃ m : Nat, n = m := ⟨n.toNat, by omega⟩
      subst hm
      rw [Int.toNat_natCast] at hn5
      have hV : grpsV s m = groupsV s.s m := by rw [grpsV, if_pos h0]; rfl
      refine cj_skip (ej_th (cj_seq (cj_region ?_)))
      refine oj_step (y_loadN Try.isAgg26 Try.sizeOf26 rfl) rfl rfl rfl ?_
      refine oj_step (y_move rfl) rfl rfl rfl ?_
      refine oj_callS (fun A c => .slice A (intsL (reachL s.s m)).length c) 1 enInt (intsL (reachL s.s m)) Try.call60 rfl (fun w hp => k_rreaching s m w (hs.mono hp.below) hb (by omega)) rfl (fun A21 c21 fp21 hfp21 => ?_)
      refine oj_callS (fun A c => .slice A (intsL (minL (reachL s.s m))).length c) 1 enInt (intsL (minL (reachL s.s m))) Try.call59 rfl (fun w hp => k_rLeast (reachL s.s m) A21 c21 w hp.rd (sets_lt hb)) rfl (fun A22 c22 fp22 hfp22 => ?_)
      refine oj_step (y_assign rfl) rfl rfl rfl ?_
      refine oj_step (y_assign rfl) rfl rfl rfl ?_
      refine oj_nil ?_
      refine ej_th (cj_ret ?_)
      exact ej_ret2 rfl Try.results21 rfl rfl (fun w' hp => ⟨A22, c22, by rw [hV, h0]; rfl, hp.below, by rw [hV]; exact hp.resS (fun b hb => hfp22 b hb)⟩)

theorem k_rGuards (s : StrV) (n : Int) (w : World) (hs : StrRd w s) : Calls Try.prog 24 #[.agg #[.slice s.Ar s.rooms.length s.cr, .slice s.Ag s.gates.length s.cg, .slice s.As s.staff.length s.cs], .int .i64 n] w (fun e w' => ∃ A c, e = .returned (.tuple #[.slice A (intsL (grdsV s n)).length c, .int .i64 (roomE s n)]) ∧ Grow w w' ∧ Res w w' 1 enInt A (intsL (grdsV s n))) := by
  have hlr := hs.rooms.len
  refine enter_pure (args := [.agg #[.slice s.Ar s.rooms.length s.cr, .slice s.Ag s.gates.length s.cg, .slice s.As s.staff.length s.cs], .int .i64 n]) [sl (fun b => b < w.heap.size) 3 encRo s.Ar s.rooms, sl (fun b => b < w.heap.size) 4 encGa s.Ag s.gates, sl (fun b => b < w.heap.size) 1 enInt s.As s.staff] Try.func24 rfl (by rw [Try.ntmps24]; simp) (fun g hg => by simp at hg; rcases hg with rfl | rfl | rfl; exact ⟨hs.rooms, fun _ h => h⟩; exact ⟨hs.gates, fun _ h => h⟩; exact ⟨hs.staff, fun _ h => h⟩) ?_
  refine cj_seq (cj_region ?_)
  refine oj_box rfl rfl rfl (fun b2 => ?_)
  refine oj_step (y_assign rfl) rfl rfl rfl ?_
  refine oj_step (y_assign rfl) rfl rfl rfl ?_
  refine oj_nil ?_
  refine ej_th (cj_seq (cj_seq ?_))
  refine cj_regionG ?_
  refine gj_step (y_loadN Try.isAgg26 Try.sizeOf26 rfl) rfl rfl rfl (?_)
  refine gj_step (y_call Try.call16 rfl (fun w hp => k_rCheck s w (hs.mono hp.below))) rfl rfl rfl ?_
  refine gj_step (y_assign rfl) rfl rfl rfl (?_)
  refine gj_nil ?_
  refine ej_th (cj_seq ?_)
  refine cj_regionG (gj_step (y_move rfl) rfl rfl rfl (gj_step (y_neq rfl rfl) rfl rfl rfl (gj_nil ?_)))
  refine ej_th ?_
  refine cj_cond rfl (fun h15 => ?_) (fun h15 => ?_)
  · have h15b := h15
    try simp only [sxb] at h15
    have h4 := room_40 (n := n) (strE_f h15).1
    have h40 := (strE_f h15).2
    have hV : grdsV s n = [] := by rw [grdsV, h4]; rfl
    refine cj_seq ?_
    refine cj_regionG (gj_step (y_move rfl) rfl rfl rfl (gj_step (y_assign rfl) rfl rfl rfl (gj_step (y_assign rfl) rfl rfl rfl (gj_nil ?_))))
    refine ej_th (cj_ret (ej_then_ret ?_))
    exact ej_ret2 rfl Try.results24 rfl rfl (fun w' hp => ⟨none, 0, by rw [hV, h4, h40]; rfl, hp.below, by rw [hV]; exact Res.nil⟩)
  · have h15b := h15
    try simp only [sxb] at h15
    have hb := strE_t (by simpa using h15)
    refine cj_skip (ej_th (cj_seq (cj_seq ?_)))
    refine cj_regionG ?_
    refine gj_step (y_move rfl) rfl rfl rfl (gj_step (y_fa0 fa26_0 rfl) rfl rfl rfl (gj_step (y_load1 Try.isAgg22 rfl rfl) rfl rfl rfl (gj_step (y_lenA Try.underlying22 rfl) rfl rfl rfl (gj_step (y_sub rfl rfl (by omega)) rfl rfl rfl (?_)))))
    refine gj_step (y_call Try.call27 rfl (fun w hp => k_From _ _ _ w)) rfl rfl rfl ?_
    refine gj_step (y_not rfl) rfl rfl rfl (?_)
    refine gj_nil ?_
    refine ej_th ?_
    refine cj_cond rfl (fun h23 => ?_) (fun h23 => ?_)
    · have h23b := h23
      try simp only [sxb] at h23
      have h4 := room_7 hb (not_t h23b)
      have hV : grdsV s n = [] := by rw [grdsV, h4]; rfl
      refine cj_seq ?_
      refine cj_regionG (gj_step (y_assign rfl) rfl rfl rfl (gj_step (y_assign rfl) rfl rfl rfl (gj_nil ?_)))
      refine ej_th (cj_ret (ej_then_ret ?_))
      exact ej_ret2 rfl Try.results24 rfl rfl (fun w' hp => ⟨none, 0, by rw [hV, h4]; rfl, hp.below, by rw [hV]; exact Res.nil⟩)
    · have h23b := h23
      try simp only [sxb] at h23
      have h0 := room_0 hb (not_f h23b)
      obtain ⟨hb, hn0, hnr, hn5⟩ := room_ok h0
      obtain ⟨m, hm⟩ : ∃ m : Nat, n = m := ⟨n.toNat, by omega⟩
      subst hm
      rw [Int.toNat_natCast] at hn5
      have hV : grdsV s m = guardsV s.s m := by rw [grdsV, if_pos h0]; rfl
      have hok := StrOk.of hb
      have hnr := hok.nr
      have hng := hok.ng
      have hns := hok.ns
      have hp6 : 2 ^ s.staff.length ≤ 64 := pow_le64 hns.2
      have hpo : 0 < 2 ^ s.staff.length := Nat.two_pow_pos _
      have hrl : (reachL s.s m).length ≤ 64 := Nat.le_trans (rng_len _ _) (staff_le hb)
      have hel := enC (reachL s.s m)
      refine cj_skip (ej_th (cj_seq (cj_region ?_)))
      refine oj_step (y_loadN Try.isAgg26 Try.sizeOf26 rfl) rfl rfl rfl ?_
      refine oj_step (y_move rfl) rfl rfl rfl ?_
      refine oj_callS (fun A c => .slice A (intsL (reachL s.s m)).length c) 1 enInt (intsL (reachL s.s m)) Try.call60 rfl (fun w hp => k_rreaching s m w (hs.mono hp.below) hb (by omega)) rfl (fun A26 c26 fp26 hfp26 => ?_)
      refine oj_step (y_assign rfl) rfl rfl rfl ?_
      refine oj_nil ?_
      refine ej_th (cj_seq ?_)
      refine cj_regionG (gj_step (y_assign rfl) rfl rfl rfl (gj_nil ?_))
      refine ej_th (cj_seq (cj_seq ?_))
      refine cj_regionG (gj_step (y_assign rfl) rfl rfl rfl (gj_nil ?_))
      refine ej_th (cj_block ?_)
      refine cj_ownNil 3 1 enInt ?_
      refine cj_lpi (X := Nat × Option Addr × Nat × List Int) [(2, _), (4, _), (5, _), (7, _)] (fun ⟨k, A1, c1, xs⟩ => k ≤ 2 ^ s.staff.length ∧ xs = intsL ((List.range k).filter fun g => (reachL s.s m).all (meetN g))) (fun ⟨k, A1, c1, xs⟩ => [(8, .slice A1 xs.length c1), (9, .int .i64 (k : Nat))]) (fun ⟨k, A1, c1, xs⟩ => [ow 3 1 enInt A1 c1 xs, ownB b2 (cellsB 26 [.slice s.Ar s.rooms.length s.cr, .slice s.Ag s.gates.length s.cg, .slice s.As s.staff.length s.cs])]) (fun ⟨k, A1, c1, xs⟩ => [sl fp26 1 enInt A26 (intsL (reachL s.s m)), sl (fun b => b < w.heap.size) 3 encRo s.Ar s.rooms, sl (fun b => b < w.heap.size) 4 encGa s.Ag s.gates, sl (fun b => b < w.heap.size) 1 enInt s.As s.staff]) (fun ⟨k, A1, c1, xs⟩ => 2 ^ s.staff.length - k) (0, none, 0, []) (⟨Nat.zero_le _, rfl⟩) ⟨rfl, rfl, rfl, rfl, rfl, rfl, trivial⟩ ?_
      rintro ⟨k, A1, c1, xs⟩ ⟨hk, hxs⟩
      dsimp only [List.cons_append, List.nil_append]
      refine cj_seq (cj_seq ?_)
      refine cj_regionG (gj_step (y_move rfl) rfl rfl rfl (gj_step (y_fa fa26_2 rfl) rfl rfl rfl (gj_step (y_load1 Try.isAgg24 rfl rfl) rfl rfl rfl (gj_step (y_lenA Try.underlying24 rfl) rfl rfl rfl (gj_step (y_shl1 rfl rfl (by omega)) rfl rfl rfl (gj_step (y_lss rfl rfl) rfl rfl rfl (gj_nil ?_)))))))
      refine ej_th ?_
      refine cj_cond rfl (fun h32 => ?_) (fun h32 => ?_)
      · have h32b := h32
        try simp only [sxb] at h32
        have hxl := rng_len (fun g => (reachL s.s m).all (meetN g)) k
        have hxi : xs.length ≤ 64 := by rw [hxs, enC]; omega
        refine cj_skip (ej_th (cj_seq (cj_block (cj_seq ?_))))
        refine cj_regionG (gj_step (y_assign rfl) rfl rfl rfl (gj_nil ?_))
        refine ej_th (cj_seq (cj_seq ?_))
        refine cj_regionG (gj_step (y_assign rfl) rfl rfl rfl (gj_nil ?_))
        refine ej_th (cj_block ?_)
        refine cj_lpic (X := Nat × Bool) [(8, _), (9, _), (2, _), (4, _), (5, _), (7, _)] (fun ⟨j, b⟩ => j ≤ (reachL s.s m).length ∧ (b && ((reachL s.s m).drop j).all (meetN k)) = (reachL s.s m).all (meetN k)) (fun ⟨j, b⟩ => [(10, .bool b), (11, .int .i64 (j : Nat))]) (fun ⟨j, b⟩ => (reachL s.s m).length - j) (0, true) (⟨Nat.zero_le _, rfl⟩) ⟨rfl, rfl, rfl, rfl, rfl, rfl, rfl, rfl, trivial⟩ ?_
        rintro ⟨j, b⟩ ⟨hj, hsj⟩
        dsimp only [List.cons_append, List.nil_append]
        refine cj_seq (cj_seq ?_)
        refine cj_regionG (gj_step (y_move rfl) rfl rfl rfl (gj_step (y_move rfl) rfl rfl rfl (gj_step (y_lenA Try.underlying24 rfl) rfl rfl rfl (gj_step (y_lss rfl rfl) rfl rfl rfl (gj_nil ?_)))))
        refine ej_th ?_
        refine cj_cond rfl (fun h38 => ?_) (fun h38 => ?_)
        · have h38b := h38
          try simp only [sxb] at h38
          obtain ⟨y, hyu⟩ : ∃ y, (reachL s.s m)[j]? = some y := ⟨_, List.getElem?_eq_getElem (by omega)⟩
          have hy := get_ints hyu
          rw [all_drop _ (reachL s.s m) j y hyu, ← Bool.and_assoc] at hsj
          refine cj_skip (ej_th (cj_seq (cj_block ?_)))
          refine cj_regionG ?_
          refine gj_step (y_move rfl) rfl rfl rfl (gj_step (y_move rfl) rfl rfl rfl (?_))
          refine gj_g 6 42 48 rfl rfl rfl rfl (fun hg42 => gj_yes rfl rfl rfl (y_move rfl) rfl rfl (gj_yes rfl rfl rfl (y_move rfl) rfl rfl (gj_yes rfl rfl rfl (y_move rfl) rfl rfl (gj_yes rfl rfl rfl (y_ixR (reads_sl) Try.underlying24 Try.sizeOf3 rfl rfl (⟨by omega, by omega⟩)) rfl rfl (gj_yes rfl rfl rfl (y_ld0 (reads_sl) Try.isAgg3 rfl (hy) rfl) rfl rfl (gj_yes rfl rfl rfl (y_call Try.call64 rfl (fun w hp => k_meet k y w)) rfl rfl (gj_nil rfl))))))) ?_
          refine gj_step (y_and rfl rfl rfl) rfl rfl rfl (gj_step (y_assign rfl) rfl rfl rfl (?_))
          refine gj_nil ?_
          refine ej_blk (ej_th ?_)
          refine cj_regionG (gj_step (y_move rfl) rfl rfl rfl (gj_step (y_add rfl rfl (by omega)) rfl rfl rfl (gj_step (y_assign rfl) rfl rfl rfl (gj_nil ?_))))
          exact ej_nx (j + 1, b && meetN k y) (by first | omega | (simp only; omega)) ⟨by first | omega | (simp only; omega), hsj⟩ ⟨rfl, rfl, rfl, rfl, rfl, rfl, rfl, rfl, trivial⟩
        · have h38b := h38
          try simp only [sxb] at h38
          rw [List.drop_of_length_le (by omega), List.all_nil, Bool.and_true] at hsj
          subst hsj
          refine cj_exit (ej_then_exit (ej_then_exit (ej_blk_hit (ej_th (cj_seq ?_)))))
          refine cj_regionG (gj_step (y_move rfl) rfl rfl rfl (gj_nil ?_))
          refine ej_th ?_
          refine cj_cond rfl (fun h50 => ?_) (fun h50 => ?_)
          · have h50b := h50
            try simp only [sxb] at h50
            refine cj_region ?_
            refine oj_step (y_move rfl) rfl rfl rfl ?_
            refine oj_step (y_move rfl) rfl rfl rfl ?_
            refine oj_buildSlice (cs := [.int .i64 (k : Nat)]) [.int .i64 0] Try.underlying24 Try.sizeOf3 Try.zeroValue3 rfl rfl (by kernel_rfl) (by kernel_rfl) rfl (fun b53 => ?_)
            refine oj_append  el24 (fun _ => rfl) enInt_one rfl rfl rfl (reads_lit [((k : Nat) : Int)] (fun _ => rfl) rfl) (by unfold maxLen; simp only [List.length_append, List.length_cons, List.length_nil]; omega) (by simp only [List.length_append, List.length_cons, List.length_nil]; omega) rfl (fun A54 c54 => ?_)
            refine oj_step (y_assign rfl) rfl rfl rfl ?_
            refine oj_nil ?_
            refine ej_blk (ej_th ?_)
            refine cj_regionG (gj_step (y_move rfl) rfl rfl rfl (gj_step (y_add rfl rfl (by omega)) rfl rfl rfl (gj_step (y_assign rfl) rfl rfl rfl (gj_nil ?_))))
            exact ej_nx (k + 1, A54, c54, xs ++ [((k : Nat) : Int)]) (by first | omega | (simp only; omega)) ⟨by first | omega | (simp only; omega), by rw [hxs, rng_t (p := fun g => (reachL s.s m).all (meetN g)) h50b]; simp⟩ ⟨rfl, rfl, rfl, rfl, rfl, rfl, trivial⟩
          · have h50b := h50
            try simp only [sxb] at h50
            refine cj_skip (ej_blk (ej_th ?_))
            refine cj_regionG (gj_step (y_move rfl) rfl rfl rfl (gj_step (y_add rfl rfl (by omega)) rfl rfl rfl (gj_step (y_assign rfl) rfl rfl rfl (gj_nil ?_))))
            exact ej_nx (k + 1, A1, c1, xs) (by first | omega | (simp only; omega)) ⟨by first | omega | (simp only; omega), by rw [hxs, rng_f (p := fun g => (reachL s.s m).all (meetN g)) h50b]⟩ ⟨rfl, rfl, rfl, rfl, rfl, rfl, trivial⟩
      · have h32b := h32
        try simp only [sxb] at h32
        have hke : k = 2 ^ s.staff.length := by omega
        subst hke
        rw [show ((List.range (2 ^ s.staff.length)).filter fun g => (reachL s.s m).all (meetN g)) = guardL s.s m from (guardL_eq hb m).symm] at hxs
        have hgl : (guardL s.s m).length ≤ 64 := Nat.le_trans (rng_len _ _) (staff_le hb)
        have hxi : xs.length ≤ 64 := by rw [hxs, enC]; omega
        refine cj_exit (ej_then_exit (ej_then_exit (ej_blk_hit (ej_th (cj_seq (cj_region ?_))))))
        refine oj_step (y_move rfl) rfl rfl rfl ?_
        refine oj_callS (fun A c => .slice A (intsL (guardsV s.s m)).length c) 1 enInt (intsL (guardsV s.s m)) Try.call59 rfl (fun w hp => by
          have h9 := k_rLeast (guardL s.s m) A1 c1 w (by rw [← hxs]; exact hp.rdO (fun _ => rfl) (by unfold maxLen; omega)) (sets_lt hb)
          rw [show (intsL (guardL s.s m)).length = xs.length by rw [← hxs]] at h9
          exact h9) rfl (fun A56 c56 fp56 hfp56 => ?_)
        refine oj_step (y_assign rfl) rfl rfl rfl ?_
        refine oj_step (y_assign rfl) rfl rfl rfl ?_
        refine oj_nil ?_
        refine ej_th (cj_ret ?_)
        exact ej_ret2 rfl Try.results24 rfl rfl (fun w' hp => ⟨A56, c56, by rw [hV, h0], hp.below, by rw [hV]; exact hp.resS (fun b hb => hfp56 b hb)⟩)

end Go.Proofs.Ytomidcehahdmbaa
namespace Go.Proofs.Ytomidcehahdmbaa
open Go Go.Sx Go.RowKit Vm
def opnI (s : Str) (n : Nat) : Nat → List Int → Option Nat
  | r, [] => some r
  | r, k :: w => if btw 0 k (s.gates.length - 1) = true then (match s.gates[k.toNat]? with
    | none => none
    | some g => if leadN s n r g = true then opnI s n (nextN r g) w else none) else none
theorem opn_no {s : Str} {n r : Nat} {k : Int} {w : List Int} (h : btw 0 k (s.gates.length - 1) = false) : opnI s n r (k :: w) = none := by
  rw [opnI, if_neg (by rw [h]; simp)]
theorem opn_yes {s : StrV} {n r : Nat} {k : Int} {w : List Int} {g : GateV} (h : btw 0 k (s.gates.length - 1) = true) (hg : s.gates[k.toNat]? = some g) : opnI s.s n r (k :: w) = if leadN s.s n r g.n = true then opnI s.s n (nextN r g.n) w else none := by
  rw [opnI, gates_len, if_pos h, gate_get hg]
theorem opn_walk (s : Str) (n : Nat) : ∀ (l : List Nat) (r : Nat), opnI s n r (intsL l) = walkW s n r l
  | [], _ => rfl
  | k :: l, r => by
    show opnI s n r ((k : Int) :: intsL l) = _
    rw [opnI, walkW, Int.toNat_natCast]
    cases hg : s.gates[k]? with
    | none =>
      simp only
      split <;> rfl
    | some g =>
      have hk := (List.getElem?_eq_some_iff.1 hg).1
      rw [if_pos (btw_t.2 (by omega))]
      simp only
      by_cases hl : leadN s n r g = true
      · rw [if_pos hl, if_pos hl, opn_walk s n l]
      · rw [if_neg hl, if_neg hl]
/-- Each way of numbers that leads somewhere is one of gates. -/
theorem opn_nats (s : Str) (n : Nat) : ∀ (w : List Int) (r R : Nat), opnI s n r w = some R → w = intsL (w.map Int.toNat) ∧ walkW s n r (w.map Int.toNat) = some R
  | [], r, R, h => ⟨rfl, h⟩
  | k :: w, r, R, h => by
    have hb : btw 0 k (s.gates.length - 1) = true := by
      cases hb : btw 0 k (s.gates.length - 1) with
      | true => rfl
      | false => rw [opn_no hb] at h; cases h
    have h0 := btw_t.1 hb
    have e : k = ((k.toNat : Nat) : Int) := by omega
    rw [opnI, if_pos hb] at h
    cases hg : s.gates[k.toNat]? with
    | none => rw [hg] at h; cases h
    | some g =>
      rw [hg] at h
      simp only at h
      by_cases hl : leadN s n r g = true
      · rw [if_pos hl] at h
        obtain ⟨h1, h2⟩ := opn_nats s n w _ R h
        refine ⟨?_, ?_⟩
        · show k :: w = ((k.toNat : Nat) : Int) :: intsL (w.map Int.toNat)
          rw [← h1, ← e]
        · show walkW s n r (k.toNat :: w.map Int.toNat) = _
          rw [walkW, hg]; simp only [if_pos hl]; exact h2
      · rw [if_neg hl] at h; cases h
def ldI (s : StrV) (n r : Nat) (x : Int) : Bool := match s.gates[x.toNat]? with
  | none => false
  | some g => leadN s.s n r g.n
theorem ldI_at {s : StrV} {n r : Nat} {x : Int} {g : GateV} (h : s.gates[x.toNat]? = some g) : ldI s n r x = leadN s.s n r g.n := by unfold ldI; rw [h]
theorem opn_stop {s : StrV} {n r : Nat} {x : Int} {w : List Int} (h : (!btw 0 x (s.gates.length - 1) || !ldI s n r x) = true) : opnI s.s n r (x :: w) = none := by
  cases hb : btw 0 x (s.gates.length - 1) with
  | false => exact opn_no (by rw [gates_len]; exact hb)
  | true =>
    have h0 := btw_t.1 hb
    obtain ⟨g, hg⟩ : ∃ g, s.gates[x.toNat]? = some g := ⟨_, List.getElem?_eq_getElem (by omega)⟩
    rw [hb, Bool.not_true, Bool.false_or] at h
    rw [opn_yes (by exact hb) hg, if_neg]
    rw [← ldI_at hg, not_t h]; simp
def opnE (s : StrV) (g : Int) (w : List Int) : Int := if askE s g = 0 then (match opnI s.s g.toNat 1 w with | none => 42 | some _ => 0) else askE s g
def opnV (s : StrV) (g : Int) (w : List Int) : Nat := if askE s g = 0 then (opnI s.s g.toNat 1 w).getD 0 else 0
theorem opn_bad {s : StrV} {g : Int} {w : List Int} (h : askE s g ≠ 0) : opnE s g w = askE s g ∧ opnV s g w = 0 := ⟨by unfold opnE; rw [if_neg h], by unfold opnV; rw [if_neg h]⟩
theorem opn_42 {s : StrV} {g : Int} {w : List Int} (h : askE s g = 0) (h2 : opnI s.s g.toNat 1 w = none) : opnE s g w = 42 ∧ opnV s g w = 0 := ⟨by unfold opnE; rw [if_pos h, h2], by unfold opnV; rw [if_pos h, h2]; rfl⟩
theorem opn_ok {s : StrV} {g : Int} {w : List Int} {R : Nat} (h : askE s g = 0) (h2 : opnI s.s g.toNat 1 w = some R) : opnE s g w = 0 ∧ opnV s g w = R := ⟨by unfold opnE; rw [if_pos h, h2], by unfold opnV; rw [if_pos h, h2]; rfl⟩
/-! by depth -/
def dfsF (s : StrV) (n m d r i : Nat) : Option (List Nat) := match s.s.gates[i]? with
  | none => none
  | some g => if leadN s.s n r g = true then (dfs s.s n m d (nextN r g)).map (i :: ·) else none
theorem dfs_S (s : StrV) (n m d r : Nat) : dfs s.s n m (d + 1) r = ((List.range s.gates.length).drop 0).findSome? (dfsF s n m d r) := by
  rw [dfs, gates_len, List.drop_zero]; rfl
theorem dfs_step {s : StrV} {n m d r k : Nat} (hk : k < s.gates.length) : ((List.range s.gates.length).drop k).findSome? (dfsF s n m d r) = match dfsF s n m d r k with
    | some y => some y
    | none => ((List.range s.gates.length).drop (k + 1)).findSome? (dfsF s n m d r) := by
  rw [get_drop (List.getElem?_range hk), List.findSome?_cons]
  cases dfsF s n m d r k <;> rfl
theorem dfsF_no {s : StrV} {n m d r k : Nat} {g : GateV} (hg : s.gates[k]? = some g) (hl : leadN s.s n r g.n = false) : dfsF s n m d r k = none := by
  unfold dfsF; rw [gate_get hg]; simp [hl]
theorem dfsF_yes {s : StrV} {n m d r k : Nat} {g : GateV} (hg : s.gates[k]? = some g) (hl : leadN s.s n r g.n = true) : dfsF s n m d r k = (dfs s.s n m d (nextN r g.n)).map (k :: ·) := by
  unfold dfsF; rw [gate_get hg]; simp only [if_pos hl]
theorem dfs_0 (s : StrV) (n m r : Nat) : dfs s.s n m 0 r = if r.testBit m = true then some [] else none := rfl
theorem wayV_at {s : StrV} {n m k : Nat} {l : List Nat} (hk : k < s.rooms.length) (hno : ∀ j, j < k → dfs s.s n m j 1 = none) (h : dfs s.s n m k 1 = some l) : wayV s.s n m = some l := by
  unfold wayV wayF
  have e : List.range s.rooms.length = (List.range s.rooms.length).take k ++ (List.range s.rooms.length).drop k := (List.take_append_drop k _).symm
  show (List.range s.rooms.length).findSome? _ = _
  rw [e, List.findSome?_append, get_drop (List.getElem?_range hk), List.findSome?_cons, h]
  have h1 : ((List.range s.rooms.length).take k).findSome? (fun j => dfs s.s n m j 1) = none := by
    rw [List.findSome?_eq_none_iff]
    intro j hj
    rw [List.take_range] at hj
    exact hno j (by have := List.mem_range.1 hj; omega)
  rw [h1]; rfl
theorem wayV_no {s : StrV} {n m : Nat} (hno : ∀ j, j < s.rooms.length → dfs s.s n m j 1 = none) : wayV s.s n m = none := by
  unfold wayV wayF
  rw [List.findSome?_eq_none_iff]
  intro j hj
  exact hno j (List.mem_range.1 hj)
def wayE (s : StrV) (g room : Int) : Int := if askE s g = 0 then (if btw 0 room (s.rooms.length - 1) = true then (match wayV s.s g.toNat room.toNat with | none => 4 | some _ => 0) else 7) else askE s g
def wayL (s : StrV) (g room : Int) : List Nat := if askE s g = 0 then (if btw 0 room (s.rooms.length - 1) = true then (wayV s.s g.toNat room.toNat).getD [] else []) else []
theorem way_bad {s : StrV} {g m : Int} (h : askE s g ≠ 0) : wayE s g m = askE s g ∧ wayL s g m = [] := ⟨by unfold wayE; rw [if_neg h], by unfold wayL; rw [if_neg h]⟩
theorem way_7 {s : StrV} {g m : Int} (h : askE s g = 0) (h2 : btw 0 m (s.rooms.length - 1) = false) : wayE s g m = 7 ∧ wayL s g m = [] := ⟨by unfold wayE; rw [if_pos h, h2]; rfl, by unfold wayL; rw [if_pos h, h2]; rfl⟩
theorem way_4 {s : StrV} {g m : Int} (h : askE s g = 0) (h2 : btw 0 m (s.rooms.length - 1) = true) (h3 : wayV s.s g.toNat m.toNat = none) : wayE s g m = 4 ∧ wayL s g m = [] := ⟨by unfold wayE; rw [if_pos h, if_pos h2, h3], by unfold wayL; rw [if_pos h, if_pos h2, h3]; rfl⟩
theorem way_0 {s : StrV} {g m : Int} {l : List Nat} (h : askE s g = 0) (h2 : btw 0 m (s.rooms.length - 1) = true) (h3 : wayV s.s g.toNat m.toNat = some l) : wayE s g m = 0 ∧ wayL s g m = l := ⟨by unfold wayE; rw [if_pos h, if_pos h2, h3], by unfold wayL; rw [if_pos h, if_pos h2, h3]; rfl⟩
def aheadB : List Int → List Int → Bool
  | x :: a, y :: b => if x = y then aheadB a b else decide (x < y)
  | [], _ :: _ => true
  | _, [] => false
theorem ahead_drop {a b : List Int} {k : Nat} {x y : Int} (hx : a[k]? = some x) (hy : b[k]? = some y) : aheadB (a.drop k) (b.drop k) = if x = y then aheadB (a.drop (k + 1)) (b.drop (k + 1)) else decide (x < y) := by
  rw [get_drop hx, get_drop hy, aheadB]
theorem ahead_end {a b : List Int} {k : Nat} (ha : k ≤ a.length) (hb : k ≤ b.length) (h : a.length = k ∨ b.length = k) : aheadB (a.drop k) (b.drop k) = decide (a.length < b.length) := by
  rcases h with h | h
  · rw [List.drop_of_length_le (show a.length ≤ k by omega)]
    by_cases h2 : b.length = k
    · rw [List.drop_of_length_le (show b.length ≤ k by omega), decide_eq_false (by omega)]; rfl
    · have hk : k < b.length := by omega
      rw [get_drop (List.getElem?_eq_getElem hk), decide_eq_true (by omega)]; rfl
  · rw [List.drop_of_length_le (show b.length ≤ k by omega), decide_eq_false (by omega)]
    cases a.drop k <;> rfl
end Go.Proofs.Ytomidcehahdmbaa
namespace Go.Proofs.Ytomidcehahdmbaa
open Go.Sx Go.RowKit Vm
set_option maxRecDepth 20000
theorem k_Opens (s : StrV) (g : Int) (way : List Int) (Aw : Option Addr) (cw : Nat) (w : World) (hs : StrRd w s) (hw : Rd w 1 enInt Aw way) : Calls Try.prog 37 #[.agg #[.slice s.Ar s.rooms.length s.cr, .slice s.Ag s.gates.length s.cg, .slice s.As s.staff.length s.cs], .int .i64 g, .slice Aw way.length cw] w (fun e w' => e = .returned (.tuple #[.int .i64 (opnV s g way : Nat), .int .i64 (opnE s g way)]) ∧ Grow w w') := by
  have hlw := hw.len
  refine enter_pure (args := [.agg #[.slice s.Ar s.rooms.length s.cr, .slice s.Ag s.gates.length s.cg, .slice s.As s.staff.length s.cs], .int .i64 g, .slice Aw way.length cw]) [sl (fun b => b < w.heap.size) 3 encRo s.Ar s.rooms, sl (fun b => b < w.heap.size) 4 encGa s.Ag s.gates, sl (fun b => b < w.heap.size) 1 enInt s.As s.staff, sl (fun b => b < w.heap.size) 1 enInt Aw way] Try.func37 rfl (by rw [Try.ntmps37]; simp) (fun g hg => by simp at hg; rcases hg with rfl | rfl | rfl | rfl; exact ⟨hs.rooms, fun _ h => h⟩; exact ⟨hs.gates, fun _ h => h⟩; exact ⟨hs.staff, fun _ h => h⟩; exact ⟨hw, fun _ h => h⟩) ?_
  refine cj_seq (cj_region ?_)
  refine oj_box rfl rfl rfl (fun b3 => ?_)
  refine oj_step (y_assign rfl) rfl rfl rfl ?_
  refine oj_step (y_assign rfl) rfl rfl rfl ?_
  refine oj_nil ?_
  refine ej_th (cj_seq (cj_region ?_))
  refine oj_step (y_loadN Try.isAgg26 Try.sizeOf26 rfl) rfl rfl rfl ?_
  refine oj_step (y_move rfl) rfl rfl rfl ?_
  refine oj_step (y_call Try.call42 rfl (fun w hp => k_asked s g w (hs.mono hp.below))) rfl rfl rfl ?_
  refine oj_step (y_move rfl) rfl rfl rfl ?_
  refine oj_step (y_extract rfl rfl) rfl rfl rfl ?_
  refine oj_step (y_extract rfl rfl) rfl rfl rfl ?_
  refine oj_alloc Try.zeroValue76 rfl rfl (fun b8 => ?_)
  refine oj_store rfl rfl rfl rfl Try.sizeOf76 rfl ?_
  refine oj_step (y_assign rfl) rfl rfl rfl ?_
  refine oj_nil ?_
  refine ej_th (cj_seq (cj_seq ?_))
  refine cj_regionG (gj_step (y_move rfl) rfl rfl rfl (gj_step (y_neq rfl rfl) rfl rfl rfl (gj_nil ?_)))
  refine ej_th ?_
  refine cj_cond rfl (fun h22 => ?_) (fun h22 => ?_)
  · have h22b := h22
    try simp only [sxb] at h22
    obtain ⟨e1, e2⟩ := opn_bad (w := way) h22
    refine cj_seq ?_
    refine cj_regionG (gj_step (y_move rfl) rfl rfl rfl (gj_step (y_assign rfl) rfl rfl rfl (gj_step (y_assign rfl) rfl rfl rfl (gj_nil ?_))))
    refine ej_th (cj_ret (ej_then_ret ?_))
    refine ej_ret2 rfl Try.results37 rfl rfl (fun w' hp => ⟨?_, hp.below⟩)
    rw [e1, e2]; rfl
  · have h22b := h22
    try simp only [sxb] at h22
    have h0 : askE s g = 0 := by simpa using h22
    obtain ⟨e2, e3, hb, hg0, hgl, hm64⟩ := ask_0 h0
    have hok := StrOk.of hb
    have hnr := hok.nr
    have hng := hok.ng
    have hns := hok.ns
    obtain ⟨n, hn⟩ : ∃ n : Nat, g = n := ⟨g.toNat, by omega⟩
    subst hn
    rw [Int.toNat_natCast] at hm64 hgl
    rw [e2, e3]
    refine cj_skip (ej_th (cj_seq ?_))
    refine cj_regionG (gj_step (y_assign rfl) rfl rfl rfl (gj_nil ?_))
    refine ej_th (cj_seq (cj_seq ?_))
    refine cj_regionG (gj_step (y_move rfl) rfl rfl rfl (gj_step (y_lenA Try.underlying24 rfl) rfl rfl rfl (gj_step (y_move rfl) rfl rfl rfl (gj_nil ?_))))
    refine ej_th (cj_block ?_)
    refine cj_lpic (X := Nat × Nat) [(3, _), (8, _), (24, _), (25, _)] (fun ⟨k, r⟩ => k ≤ way.length ∧ r < 2 ^ s.rooms.length ∧ opnI s.s n r (way.drop k) = opnI s.s n 1 way) (fun ⟨k, r⟩ => [(10, .int .i64 (r : Nat)), (26, .int .i64 (k : Nat))]) (fun ⟨k, r⟩ => way.length - k) (0, 1) (⟨Nat.zero_le _, one_lt hb, rfl⟩) ⟨rfl, rfl, rfl, rfl, rfl, rfl, trivial⟩ ?_
    rintro ⟨k, r⟩ ⟨hk, hr, hsk⟩
    dsimp only [List.cons_append, List.nil_append]
    refine cj_seq ?_
    refine cj_regionG (gj_step (y_lss rfl rfl) rfl rfl rfl (gj_nil ?_))
    refine ej_th (cj_seq ?_)
    refine cj_cond rfl (fun h27 => ?_) (fun h27 => ?_)
    · have h27b := h27
      try simp only [sxb] at h27
      obtain ⟨x, hx⟩ : ∃ x, way[k]? = some x := ⟨_, List.getElem?_eq_getElem (by omega)⟩
      rw [get_drop hx] at hsk
      refine cj_skip (ej_th (cj_seq (cj_block (cj_seq ?_))))
      refine cj_regionG (gj_step (y_ixR (reads_sl) Try.underlying24 Try.sizeOf3 rfl rfl (⟨by omega, by omega⟩)) rfl rfl rfl (gj_step (y_ld0 (reads_sl) Try.isAgg3 rfl (hx) rfl) rfl rfl rfl (gj_step (y_assign rfl) rfl rfl rfl (gj_nil ?_))))
      refine ej_th (cj_seq (cj_seq ?_))
      refine cj_regionG ?_
      refine gj_step (y_move rfl) rfl rfl rfl (gj_step (y_fa fa26_1 rfl) rfl rfl rfl (gj_step (y_load1 Try.isAgg23 rfl rfl) rfl rfl rfl (gj_step (y_lenA Try.underlying23 rfl) rfl rfl rfl (gj_step (y_sub rfl rfl (by omega)) rfl rfl rfl (?_)))))
      refine gj_step (y_call Try.call46 rfl (fun w hp => k_within _ _ _ w)) rfl rfl rfl ?_
      refine gj_step (y_not rfl) rfl rfl rfl (?_)
      refine gj_nil ?_
      refine ej_th ?_
      refine cj_cond rfl (fun h36 => ?_) (fun h36 => ?_)
      · have h36b := h36
        try simp only [sxb] at h36
        rw [opn_no (by rw [gates_len]; exact not_t h36b)] at hsk
        obtain ⟨e1, e2⟩ := opn_42 h0 (by rw [Int.toNat_natCast]; exact hsk.symm)
        refine cj_seq ?_
        refine cj_regionG (gj_step (y_assign rfl) rfl rfl rfl (gj_step (y_assign rfl) rfl rfl rfl (gj_nil ?_)))
        refine ej_th (cj_ret (ej_then_ret (ej_blk_ret (ej_then_ret (ej_then_ret (ej_blk_ret (ej_then_ret ?_)))))))
        refine ej_ret2 rfl Try.results37 rfl rfl (fun w' hp => ⟨?_, hp.below⟩)
        rw [e1, e2]; rfl
      · have h36b := h36
        try simp only [sxb] at h36
        have hxb := btw_t.1 (not_f h36b)
        obtain ⟨g, hgk⟩ : ∃ g, s.gates[x.toNat]? = some g := ⟨_, List.getElem?_eq_getElem (by omega)⟩
        have hg := List.mem_of_getElem? hgk
        have hgo := hok.gate g hg
        obtain ⟨hga, hgb, hgne, hgn, hgl, hgw⟩ := hgo
        rw [opn_yes (not_f h36b) hgk] at hsk
        have hr64 : r < 64 := Nat.lt_of_lt_of_le hr (pow_le64 hnr.2)
        refine cj_skip (ej_th (cj_seq ?_))
        refine cj_draw (by kernel_rfl) (by kernel_rfl) ?_
        refine gj_step (y_loadN Try.isAgg76 Try.sizeOf76 rfl) rfl rfl rfl (gj_step (y_fa fa26_1 rfl) rfl rfl rfl (gj_step (y_load1 Try.isAgg23 rfl rfl) rfl rfl rfl (gj_step (y_move rfl) rfl rfl rfl (gj_step (y_ixR (reads_sl) Try.underlying23 Try.sizeOf69 rfl rfl (⟨by omega, by omega⟩)) rfl rfl rfl (gj_step (y_ldW (reads_sl) Try.isAgg69 Try.sizeOf69 rfl (hgk) (fun _ => rfl)) rfl rfl rfl (gj_step (y_move rfl) rfl rfl rfl (?_)))))))
        refine gj_step (y_call Try.call54 rfl (fun w hp => k_new s n r g w (hs.mono hp.below) hb hm64 hr hg)) rfl rfl rfl ?_
        refine gj_step (y_move rfl) rfl rfl rfl (gj_step (y_extract rfl rfl) rfl rfl rfl (gj_step (y_extract rfl rfl) rfl rfl rfl (gj_step (y_assign rfl) rfl rfl rfl (gj_step (y_assign rfl) rfl rfl rfl (?_)))))
        refine gj_nil ?_
        refine ej_th (cj_seq (cj_seq ?_))
        refine cj_regionG (gj_step (y_move rfl) rfl rfl rfl (gj_step (y_not rfl) rfl rfl rfl (gj_nil ?_)))
        refine ej_th ?_
        refine cj_cond rfl (fun h49 => ?_) (fun h49 => ?_)
        · have h49b := h49
          try simp only [sxb] at h49
          rw [if_neg (by rw [not_t h49b]; simp)] at hsk
          obtain ⟨e1, e2⟩ := opn_42 h0 (by rw [Int.toNat_natCast]; exact hsk.symm)
          refine cj_seq ?_
          refine cj_regionG (gj_step (y_assign rfl) rfl rfl rfl (gj_step (y_assign rfl) rfl rfl rfl (gj_nil ?_)))
          refine ej_th (cj_ret (ej_then_ret (ej_blk_ret (ej_then_ret (ej_then_ret (ej_blk_ret (ej_then_ret ?_)))))))
          refine ej_ret2 rfl Try.results37 rfl rfl (fun w' hp => ⟨?_, hp.below⟩)
          rw [e1, e2]; rfl
        · have h49b := h49
          try simp only [sxb] at h49
          have hld := not_f h49b
          rw [if_pos hld] at hsk
          have hnx := next_new hld
          have hnb : 0 ≤ newI s n r g ∧ newI s n r g ≤ 5 := by unfold newI; rw [if_pos hld]; split <;> omega
          have hpn : 2 ^ (newI s n r g).toNat ≤ 1152921504606846976 := pow_bd (n := 6) (by omega) (by omega)
          have hlt := next_lt hb hr (List.mem_map.2 ⟨g, hg, rfl⟩)
          refine cj_skip (ej_th ?_)
          refine cj_regionG (gj_step (y_move rfl) rfl rfl rfl (gj_step (y_move rfl) rfl rfl rfl (gj_step (y_shl1I rfl rfl (by omega) (by omega)) rfl rfl rfl (gj_step (y_orN rfl rfl (by omega) (by omega)) rfl rfl rfl (gj_step (y_assign rfl) rfl rfl rfl (gj_nil ?_))))))
          refine ej_blk (ej_th ?_)
          refine cj_regionG (gj_step (y_add rfl rfl (by omega)) rfl rfl rfl (gj_step (y_move rfl) rfl rfl rfl (gj_nil ?_)))
          rw [hnx]
          exact ej_nx (k + 1, nextN r g.n) (by first | omega | (simp only; omega)) ⟨by first | omega | (simp only; omega), hlt, hsk⟩ ⟨rfl, rfl, rfl, rfl, rfl, rfl, trivial⟩
    · have h27b := h27
      try simp only [sxb] at h27
      rw [List.drop_of_length_le (by omega)] at hsk
      obtain ⟨e1, e2⟩ := opn_ok h0 (show opnI s.s (n : Int).toNat 1 way = some r by rw [Int.toNat_natCast, ← hsk]; rfl)
      refine cj_exit (ej_then_exit (ej_then_exit (ej_blk_hit (ej_th (cj_seq ?_)))))
      refine cj_regionG (gj_step (y_move rfl) rfl rfl rfl (gj_step (y_assign rfl) rfl rfl rfl (gj_step (y_assign rfl) rfl rfl rfl (gj_nil ?_))))
      refine ej_th (cj_ret ?_)
      refine ej_ret2 rfl Try.results37 rfl rfl (fun w' hp => ⟨?_, hp.below⟩)
      rw [e1, e2]

theorem k_Clone (l : List Int) (A : Option Addr) (c : Nat) (w : World) (hl : Rd w 1 enInt A l) (h8 : l.length ≤ 1000000) : Calls Try.prog 69 #[.slice A l.length c] w (fun e w' => ∃ B d, e = .returned (.slice B l.length d) ∧ Grow w w' ∧ (ow 3 1 enInt B d l).P w' ∧ ∀ b, (ow 3 1 enInt B d l).fp b → w.heap.size ≤ b) := by
  refine enter_pure (args := [.slice A l.length c]) [sl (fun b => b < w.heap.size) 1 enInt A l] Try.func69 rfl (by rw [Try.ntmps69]; simp) (fun g hg => by simp at hg; subst hg; exact ⟨hl, fun _ h => h⟩) ?_
  refine cj_seq ?_
  refine cj_regionG (gj_step (y_assign rfl) rfl rfl rfl (gj_nil ?_))
  refine ej_th (cj_seq (cj_seq ?_))
  refine cj_regionG (gj_step (y_move rfl) rfl rfl rfl (gj_step (y_eqlNil Try.underlying24 rfl rfl) rfl rfl rfl (gj_nil ?_)))
  refine ej_th ?_
  refine cj_cond rfl (fun h4 => ?_) (fun h4 => ?_)
  · have h4b := h4
    try simp only [sxb] at h4
    have hl0 : l = [] := by
      cases l with
      | nil => rfl
      | cons x r => exact absurd (by cases A with | none => rfl | some a => cases h4) (hl.ne (by simp))
    refine cj_seq ?_
    refine cj_regionG (gj_step (y_assign rfl) rfl rfl rfl (gj_nil ?_))
    refine ej_th (cj_ret (ej_then_ret ?_))
    subst hl0
    exact ej_ret1 rfl Try.results69 rfl (fun w' hp => ⟨none, 0, rfl, hp.below, ow_nil 3 1 enInt w', fun b hb => by cases hb⟩)
  · have h4b := h4
    try simp only [sxb] at h4
    refine cj_skip (ej_th (cj_seq (cj_region ?_)))
    refine oj_buildSlice (cs := []) [] Try.underlying24 Try.sizeOf3 Try.zeroValue3 rfl rfl (by kernel_rfl) (by kernel_rfl) rfl (fun b5 => ?_)
    refine oj_litOw (b := b5) (e := 3) (c := 0) (sz := 1) (enc := enInt) [] rfl rfl rfl (by unfold maxLen; simp) ?_
    refine oj_step (y_move rfl) rfl rfl rfl ?_
    refine oj_append (xs := ([] : List Int)) (c := 0) el24 (fun _ => rfl) enInt_one rfl rfl rfl (reads_sl) (by unfold maxLen; simp only [List.length_nil]; omega) (by simp only [List.length_nil]; omega) rfl (fun A7 c7 => ?_)
    refine oj_step (y_assign rfl) rfl rfl rfl ?_
    refine oj_nil ?_
    refine ej_th (cj_ret ?_)
    exact ej_ret1 rfl Try.results69 rfl (fun w' hp => ⟨A7, c7, by simp, hp.below, by have h9 := hp.resO (A := A7) (e := 3) (c := c7) (sz := 1) (enc := enInt) (xs := [] ++ l); simpa using h9⟩)

theorem k_Ahead (a b : List Int) (Aa Ab : Option Addr) (ca cb : Nat) (w : World) (ha : Rd w 1 enInt Aa a) (hb : Rd w 1 enInt Ab b) : Calls Try.prog 39 #[.slice Aa a.length ca, .slice Ab b.length cb] w (fun e w' => e = .returned (.bool (aheadB a b)) ∧ Grow w w') := by
  have hla := ha.len
  have hlb := hb.len
  refine enter_pure (args := [.slice Aa a.length ca, .slice Ab b.length cb]) [sl (fun b => b < w.heap.size) 1 enInt Aa a, sl (fun b => b < w.heap.size) 1 enInt Ab b] Try.func39 rfl (by rw [Try.ntmps39]; simp) (fun g hg => by simp at hg; rcases hg with rfl | rfl; exact ⟨ha, fun _ h => h⟩; exact ⟨hb, fun _ h => h⟩) ?_
  refine cj_seq ?_
  refine cj_regionG (gj_step (y_assign rfl) rfl rfl rfl (gj_nil ?_))
  refine ej_th (cj_seq (cj_seq ?_))
  refine cj_regionG (gj_step (y_assign rfl) rfl rfl rfl (gj_nil ?_))
  refine ej_th (cj_block ?_)
  refine cj_lpic (X := Nat) [(0, _), (1, _)] (fun k => k ≤ a.length ∧ k ≤ b.length ∧ aheadB (a.drop k) (b.drop k) = aheadB a b) (fun k => [(5, .int .i64 (k : Nat))]) (fun k => a.length - k) 0 (⟨Nat.zero_le _, Nat.zero_le _, rfl⟩) ⟨rfl, rfl, rfl, trivial⟩ ?_
  rintro k ⟨hka, hkb, hsk⟩
  dsimp only [List.cons_append, List.nil_append]
  refine cj_seq (cj_seq ?_)
  refine cj_regionG (gj_step (y_move rfl) rfl rfl rfl (gj_step (y_move rfl) rfl rfl rfl (gj_step (y_lenA Try.underlying24 rfl) rfl rfl rfl (gj_step (y_lss rfl rfl) rfl rfl rfl (gj_step (y_move rfl) rfl rfl rfl (gj_g 4 10 14 rfl rfl rfl rfl (fun hg10 => gj_yes rfl rfl rfl (y_move rfl) rfl rfl (gj_yes rfl rfl rfl (y_move rfl) rfl rfl (gj_yes rfl rfl rfl (y_lenA Try.underlying24 rfl) rfl rfl (gj_yes rfl rfl rfl (y_lss rfl rfl) rfl rfl (gj_nil rfl))))) (gj_step (y_and rfl rfl rfl) rfl rfl rfl (gj_nil ?_))))))))
  refine ej_th ?_
  refine cj_cond rfl (fun h15 => ?_) (fun h15 => ?_)
  · have h15b := h15
    try simp only [sxb] at h15
    rw [Bool.and_eq_true, decide_eq_true_iff, decide_eq_true_iff] at h15b
    have hka := h15b.1
    have hkb := h15b.2
    obtain ⟨x, hx⟩ : ∃ x, a[k]? = some x := ⟨_, List.getElem?_eq_getElem (by omega)⟩
    obtain ⟨y, hy⟩ : ∃ y, b[k]? = some y := ⟨_, List.getElem?_eq_getElem (by omega)⟩
    rw [ahead_drop hx hy] at hsk
    refine cj_skip (ej_th (cj_seq (cj_block (cj_seq ?_))))
    refine cj_draw (by kernel_rfl) (by kernel_rfl) (gj_step (y_move rfl) rfl rfl rfl (gj_step (y_move rfl) rfl rfl rfl (gj_step (y_ixR (reads_sl) Try.underlying24 Try.sizeOf3 rfl rfl (⟨by omega, by omega⟩)) rfl rfl rfl (gj_step (y_ld0 (reads_sl) Try.isAgg3 rfl (hx) rfl) rfl rfl rfl (gj_step (y_move rfl) rfl rfl rfl (gj_step (y_move rfl) rfl rfl rfl (gj_step (y_ixR (reads_sl) Try.underlying24 Try.sizeOf3 rfl rfl (⟨by omega, by omega⟩)) rfl rfl rfl (gj_step (y_ld0 (reads_sl) Try.isAgg3 rfl (hy) rfl) rfl rfl rfl (gj_step (y_neq rfl rfl) rfl rfl rfl (gj_nil ?_))))))))))
    refine ej_th ?_
    refine cj_cond rfl (fun h26 => ?_) (fun h26 => ?_)
    · have h26b := h26
      try simp only [sxb] at h26
      refine cj_seq ?_
      refine cj_draw (by kernel_rfl) (by kernel_rfl) (gj_step (y_move rfl) rfl rfl rfl (gj_step (y_move rfl) rfl rfl rfl (gj_step (y_ixR (reads_sl) Try.underlying24 Try.sizeOf3 rfl rfl (⟨by omega, by omega⟩)) rfl rfl rfl (gj_step (y_ld0 (reads_sl) Try.isAgg3 rfl (hx) rfl) rfl rfl rfl (gj_step (y_move rfl) rfl rfl rfl (gj_step (y_move rfl) rfl rfl rfl (gj_step (y_ixR (reads_sl) Try.underlying24 Try.sizeOf3 rfl rfl (⟨by omega, by omega⟩)) rfl rfl rfl (gj_step (y_ld0 (reads_sl) Try.isAgg3 rfl (hy) rfl) rfl rfl rfl (gj_step (y_lss rfl rfl) rfl rfl rfl (gj_step (y_assign rfl) rfl rfl rfl (gj_nil ?_)))))))))))
      refine ej_th (cj_ret (ej_blk_ret (ej_then_ret (ej_then_ret (ej_blk_ret (ej_then_ret ?_))))))
      refine ej_ret1 rfl Try.results39 rfl (fun w' hp => ⟨?_, hp.below⟩)
      rw [← hsk, if_neg (by simpa using h26)]
    · have h26b := h26
      try simp only [sxb] at h26
      refine cj_skip (ej_blk (ej_th ?_))
      refine cj_regionG (gj_step (y_move rfl) rfl rfl rfl (gj_step (y_add rfl rfl (by omega)) rfl rfl rfl (gj_step (y_assign rfl) rfl rfl rfl (gj_nil ?_))))
      exact ej_nx (k + 1) (by omega) ⟨by omega, by omega, by rw [← hsk, if_pos (by simpa using h26)]⟩ ⟨rfl, rfl, rfl, trivial⟩
  · have h15b := h15
    try simp only [sxb] at h15
    rw [Bool.and_eq_false_iff, decide_eq_false_iff_not, decide_eq_false_iff_not] at h15b
    rw [ahead_end hka hkb (by omega)] at hsk
    refine cj_exit (ej_then_exit (ej_then_exit (ej_blk_hit (ej_th (cj_seq ?_)))))
    refine cj_regionG (gj_step (y_move rfl) rfl rfl rfl (gj_step (y_lenA Try.underlying24 rfl) rfl rfl rfl (gj_step (y_move rfl) rfl rfl rfl (gj_step (y_lenA Try.underlying24 rfl) rfl rfl rfl (gj_step (y_lss rfl rfl) rfl rfl rfl (gj_step (y_assign rfl) rfl rfl rfl (gj_nil ?_)))))))
    refine ej_th (cj_ret ?_)
    refine ej_ret1 rfl Try.results39 rfl (fun w' hp => ⟨?_, hp.below⟩)
    rw [← hsk]
    congr 2
    rw [decide_eq_decide]; omega

theorem k_rleadsI (s : StrV) (n r : Nat) (x : Int) (w : World) (hs : StrRd w s) (hok : StrOk s) (hn : n < 64) (hx : 0 ≤ x ∧ x < s.gates.length) : Calls Try.prog 56 #[.agg #[.slice s.Ar s.rooms.length s.cr, .slice s.Ag s.gates.length s.cg, .slice s.As s.staff.length s.cs], .int .i64 (n : Nat), .int .i64 (r : Nat), .int .i64 x] w (fun e w' => e = .returned (.bool (ldI s n r x)) ∧ Grow w w') := by
  obtain ⟨g, hgk⟩ : ∃ g, s.gates[x.toNat]? = some g := ⟨_, List.getElem?_eq_getElem (by omega)⟩
  have h := k_rleads s n r x.toNat g w hs hok hn hgk
  rw [Int.toNat_of_nonneg hx.1] at h
  rw [ldI_at hgk]; exact h
theorem k_bothI (s : StrV) (r : Nat) (x : Int) (g : GateV) (w : World) (hs : StrRd w s) (hok : StrOk s) (hr : r < 64) (hx : 0 ≤ x) (hgk : s.gates[x.toNat]? = some g) : Calls Try.prog 71 #[.agg #[.slice s.Ar s.rooms.length s.cr, .slice s.Ag s.gates.length s.cg, .slice s.As s.staff.length s.cs], .int .i64 (r : Nat), .int .i64 x] w (fun e w' => e = .returned (.int .i64 (nextN r g.n : Nat)) ∧ Grow w w') := by
  have h := k_both s r x.toNat g w hs hok hr hgk
  rwa [Int.toNat_of_nonneg hx] at h

theorem k_rOpens (s : StrV) (g : Int) (way : List Int) (Aw : Option Addr) (cw : Nat) (w : World) (hs : StrRd w s) (hw : Rd w 1 enInt Aw way) : Calls Try.prog 38 #[.agg #[.slice s.Ar s.rooms.length s.cr, .slice s.Ag s.gates.length s.cg, .slice s.As s.staff.length s.cs], .int .i64 g, .slice Aw way.length cw] w (fun e w' => e = .returned (.tuple #[.int .i64 (opnV s g way : Nat), .int .i64 (opnE s g way)]) ∧ Grow w w') := by
  have hlw := hw.len
  refine enter_pure (args := [.agg #[.slice s.Ar s.rooms.length s.cr, .slice s.Ag s.gates.length s.cg, .slice s.As s.staff.length s.cs], .int .i64 g, .slice Aw way.length cw]) [sl (fun b => b < w.heap.size) 3 encRo s.Ar s.rooms, sl (fun b => b < w.heap.size) 4 encGa s.Ag s.gates, sl (fun b => b < w.heap.size) 1 enInt s.As s.staff, sl (fun b => b < w.heap.size) 1 enInt Aw way] Try.func38 rfl (by rw [Try.ntmps38]; simp) (fun g hg => by simp at hg; rcases hg with rfl | rfl | rfl | rfl; exact ⟨hs.rooms, fun _ h => h⟩; exact ⟨hs.gates, fun _ h => h⟩; exact ⟨hs.staff, fun _ h => h⟩; exact ⟨hw, fun _ h => h⟩) ?_
  refine cj_seq (cj_region ?_)
  refine oj_box rfl rfl rfl (fun b3 => ?_)
  refine oj_step (y_assign rfl) rfl rfl rfl ?_
  refine oj_step (y_assign rfl) rfl rfl rfl ?_
  refine oj_nil ?_
  refine ej_th (cj_seq (cj_seq ?_))
  refine cj_regionG ?_
  refine gj_step (y_loadN Try.isAgg26 Try.sizeOf26 rfl) rfl rfl rfl (gj_step (y_move rfl) rfl rfl rfl (?_))
  refine gj_step (y_call Try.call44 rfl (fun w hp => k_rasked s g w (hs.mono hp.below))) rfl rfl rfl ?_
  refine gj_step (y_assign rfl) rfl rfl rfl (?_)
  refine gj_nil ?_
  refine ej_th (cj_seq ?_)
  refine cj_regionG (gj_step (y_move rfl) rfl rfl rfl (gj_step (y_neq rfl rfl) rfl rfl rfl (gj_nil ?_)))
  refine ej_th ?_
  refine cj_cond rfl (fun h15 => ?_) (fun h15 => ?_)
  · have h15b := h15
    try simp only [sxb] at h15
    obtain ⟨e1, e2⟩ := opn_bad (w := way) h15
    refine cj_seq ?_
    refine cj_regionG (gj_step (y_move rfl) rfl rfl rfl (gj_step (y_assign rfl) rfl rfl rfl (gj_step (y_assign rfl) rfl rfl rfl (gj_nil ?_))))
    refine ej_th (cj_ret (ej_then_ret ?_))
    refine ej_ret2 rfl Try.results38 rfl rfl (fun w' hp => ⟨?_, hp.below⟩)
    rw [e1, e2]; rfl
  · have h15b := h15
    try simp only [sxb] at h15
    have h0 : askE s g = 0 := by simpa using h15
    obtain ⟨e2, e3, hb, hg0, hgl, hm64⟩ := ask_0 h0
    have hok := StrOk.of hb
    have hnr := hok.nr
    have hng := hok.ng
    have hns := hok.ns
    obtain ⟨n, hn⟩ : ∃ n : Nat, g = n := ⟨g.toNat, by omega⟩
    subst hn
    rw [Int.toNat_natCast] at hm64 hgl
    refine cj_skip (ej_th (cj_seq ?_))
    refine cj_regionG (gj_step (y_assign rfl) rfl rfl rfl (gj_nil ?_))
    refine ej_th (cj_seq (cj_seq ?_))
    refine cj_regionG (gj_step (y_assign rfl) rfl rfl rfl (gj_nil ?_))
    refine ej_th (cj_block ?_)
    refine cj_lpic (X := Nat × Nat) [(1, _), (2, _), (3, _)] (fun ⟨k, r⟩ => k ≤ way.length ∧ r < 2 ^ s.rooms.length ∧ opnI s.s n r (way.drop k) = opnI s.s n 1 way) (fun ⟨k, r⟩ => [(9, .int .i64 (r : Nat)), (10, .int .i64 (k : Nat))]) (fun ⟨k, r⟩ => way.length - k) (0, 1) (⟨Nat.zero_le _, one_lt hb, rfl⟩) ⟨rfl, rfl, rfl, rfl, rfl, trivial⟩ ?_
    rintro ⟨k, r⟩ ⟨hk, hr, hsk⟩
    dsimp only [List.cons_append, List.nil_append]
    refine cj_seq (cj_seq ?_)
    refine cj_regionG (gj_step (y_move rfl) rfl rfl rfl (gj_step (y_move rfl) rfl rfl rfl (gj_step (y_lenA Try.underlying24 rfl) rfl rfl rfl (gj_step (y_lss rfl rfl) rfl rfl rfl (gj_nil ?_)))))
    refine ej_th ?_
    refine cj_cond rfl (fun h20 => ?_) (fun h20 => ?_)
    · have h20b := h20
      try simp only [sxb] at h20
      obtain ⟨x, hx⟩ : ∃ x, way[k]? = some x := ⟨_, List.getElem?_eq_getElem (by omega)⟩
      rw [get_drop hx] at hsk
      have hr64 : r < 64 := Nat.lt_of_lt_of_le hr (pow_le64 hnr.2)
      refine cj_skip (ej_th (cj_seq (cj_block (cj_seq (cj_seq ?_)))))
      refine cj_draw (by kernel_rfl) (by kernel_rfl) ?_
      refine gj_step (y_move rfl) rfl rfl rfl (gj_step (y_move rfl) rfl rfl rfl (gj_step (y_ixR (reads_sl) Try.underlying24 Try.sizeOf3 rfl rfl (⟨by omega, by omega⟩)) rfl rfl rfl (gj_step (y_ld0 (reads_sl) Try.isAgg3 rfl (hx) rfl) rfl rfl rfl (gj_step (y_fa fa26_1 rfl) rfl rfl rfl (gj_step (y_load1 Try.isAgg23 rfl rfl) rfl rfl rfl (gj_step (y_lenA Try.underlying23 rfl) rfl rfl rfl (gj_step (y_sub rfl rfl (by omega)) rfl rfl rfl (?_))))))))
      refine gj_step (y_call Try.call27 rfl (fun w hp => k_From _ _ _ w)) rfl rfl rfl ?_
      refine gj_step (y_not rfl) rfl rfl rfl (gj_step (y_move rfl) rfl rfl rfl (?_))
      refine gj_g 9 33 42 rfl rfl rfl rfl (fun hg33 => gj_yes rfl rfl rfl (y_loadN Try.isAgg26 Try.sizeOf26 rfl) rfl rfl (gj_yes rfl rfl rfl (y_move rfl) rfl rfl (gj_yes rfl rfl rfl (y_move rfl) rfl rfl (gj_yes rfl rfl rfl (y_move rfl) rfl rfl (gj_yes rfl rfl rfl (y_move rfl) rfl rfl (gj_yes rfl rfl rfl (y_ixR (reads_sl) Try.underlying24 Try.sizeOf3 rfl rfl (⟨by omega, by omega⟩)) rfl rfl (gj_yes rfl rfl rfl (y_ld0 (reads_sl) Try.isAgg3 rfl (hx) rfl) rfl rfl (gj_yes rfl rfl rfl (y_call Try.call56 rfl (fun w hp => k_rleadsI s n r x w (hs.mono hp.below) hok hm64 (by have h9 := btw_t.1 (not_f hg33); omega))) rfl rfl (gj_yes rfl rfl rfl (y_not rfl) rfl rfl (gj_nil rfl)))))))))) ?_
      refine gj_step (y_or rfl rfl rfl) rfl rfl rfl (?_)
      refine gj_nil ?_
      refine ej_th ?_
      refine cj_cond rfl (fun h43 => ?_) (fun h43 => ?_)
      · have h43b := h43
        try simp only [sxb] at h43
        rw [opn_stop h43b] at hsk
        obtain ⟨e1, e2⟩ := opn_42 h0 (by rw [Int.toNat_natCast]; exact hsk.symm)
        refine cj_seq ?_
        refine cj_regionG (gj_step (y_assign rfl) rfl rfl rfl (gj_step (y_assign rfl) rfl rfl rfl (gj_nil ?_)))
        refine ej_th (cj_ret (ej_then_ret (ej_blk_ret (ej_then_ret (ej_then_ret (ej_blk_ret (ej_then_ret ?_)))))))
        refine ej_ret2 rfl Try.results38 rfl rfl (fun w' hp => ⟨?_, hp.below⟩)
        rw [e1, e2]; rfl
      · have h43b := h43
        try simp only [sxb] at h43
        rw [Bool.or_eq_false_iff] at h43b
        have hxb := btw_t.1 (not_f h43b.1)
        obtain ⟨g, hgk⟩ : ∃ g, s.gates[x.toNat]? = some g := ⟨_, List.getElem?_eq_getElem (by omega)⟩
        have hg := List.mem_of_getElem? hgk
        rw [opn_yes (not_f h43b.1) hgk] at hsk
        have hld := not_f h43b.2
        rw [ldI_at hgk] at hld
        rw [if_pos hld] at hsk
        have hlt := next_lt hb hr (List.mem_map.2 ⟨g, hg, rfl⟩)
        refine cj_skip (ej_th ?_)
        refine cj_draw (by kernel_rfl) (by kernel_rfl) ?_
        refine gj_step (y_loadN Try.isAgg26 Try.sizeOf26 rfl) rfl rfl rfl (gj_step (y_move rfl) rfl rfl rfl (gj_step (y_move rfl) rfl rfl rfl (gj_step (y_move rfl) rfl rfl rfl (gj_step (y_ixR (reads_sl) Try.underlying24 Try.sizeOf3 rfl rfl (⟨by omega, by omega⟩)) rfl rfl rfl (gj_step (y_ld0 (reads_sl) Try.isAgg3 rfl (hx) rfl) rfl rfl rfl (?_))))))
        refine gj_step (y_call Try.call71 rfl (fun w hp => k_bothI s r x g w (hs.mono hp.below) hok hr64 (by omega) hgk)) rfl rfl rfl ?_
        refine gj_step (y_assign rfl) rfl rfl rfl (?_)
        refine gj_nil ?_
        refine ej_blk (ej_th ?_)
        refine cj_regionG (gj_step (y_move rfl) rfl rfl rfl (gj_step (y_add rfl rfl (by omega)) rfl rfl rfl (gj_step (y_assign rfl) rfl rfl rfl (gj_nil ?_))))
        exact ej_nx (k + 1, nextN r g.n) (by first | omega | (simp only; omega)) ⟨by first | omega | (simp only; omega), hlt, hsk⟩ ⟨rfl, rfl, rfl, rfl, rfl, trivial⟩
    · have h20b := h20
      try simp only [sxb] at h20
      rw [List.drop_of_length_le (by omega)] at hsk
      obtain ⟨e1, e2⟩ := opn_ok h0 (show opnI s.s (n : Int).toNat 1 way = some r by rw [Int.toNat_natCast, ← hsk]; rfl)
      refine cj_exit (ej_then_exit (ej_then_exit (ej_blk_hit (ej_th (cj_seq ?_)))))
      refine cj_regionG (gj_step (y_move rfl) rfl rfl rfl (gj_step (y_assign rfl) rfl rfl rfl (gj_step (y_assign rfl) rfl rfl rfl (gj_nil ?_))))
      refine ej_th (cj_ret ?_)
      refine ej_ret2 rfl Try.results38 rfl rfl (fun w' hp => ⟨?_, hp.below⟩)
      rw [e1, e2]

theorem k_Own (l : List Int) (A : Option Addr) (c : Nat) (w : World) (hl : Rd w 1 enInt A l) (h8 : l.length ≤ 1000000) : Calls Try.prog 26 #[.slice A l.length c] w (fun e w' => ∃ B d, e = .returned (.slice B l.length d) ∧ Grow w w' ∧ (ow 3 1 enInt B d l).P w' ∧ ∀ b, (ow 3 1 enInt B d l).fp b → w.heap.size ≤ b) := by
  refine enter_pure (args := [.slice A l.length c]) [sl (fun b => b < w.heap.size) 1 enInt A l] Try.func26 rfl (by rw [Try.ntmps26]; simp) (fun g hg => by simp at hg; subst hg; exact ⟨hl, fun _ h => h⟩) ?_
  refine cj_seq ?_
  refine cj_regionG (gj_step (y_assign rfl) rfl rfl rfl (gj_nil ?_))
  refine ej_th (cj_seq (cj_region ?_))
  refine oj_buildSlice (cs := []) [] Try.underlying24 Try.sizeOf3 Try.zeroValue3 rfl rfl (by kernel_rfl) (by kernel_rfl) rfl (fun b3 => ?_)
  refine oj_litOw (b := b3) (e := 3) (c := 0) (sz := 1) (enc := enInt) [] rfl rfl rfl (by unfold maxLen; simp) ?_
  refine oj_step (y_move rfl) rfl rfl rfl ?_
  refine oj_append (xs := ([] : List Int)) (c := 0) el24 (fun _ => rfl) enInt_one rfl rfl rfl (reads_sl) (by unfold maxLen; simp only [List.length_nil]; omega) (by simp only [List.length_nil]; omega) rfl (fun A5 c5 => ?_)
  refine oj_step (y_assign rfl) rfl rfl rfl ?_
  refine oj_nil ?_
  refine ej_th (cj_ret ?_)
  exact ej_ret1 rfl Try.results26 rfl (fun w' hp => ⟨A5, c5, by simp, hp.below, by have h9 := hp.resO (A := A5) (e := 3) (c := c5) (sz := 1) (enc := enInt) (xs := [] ++ l); simpa using h9⟩)

end Go.Proofs.Ytomidcehahdmbaa
namespace Go.Proofs.Ytomidcehahdmbaa
open Go.Sx Go.RowKit Vm
set_option maxRecDepth 20000
theorem k_valid (s : StrV) (l : List CarryV) (A : Option Addr) (cc : Nat) (w : World) (hs : StrRd w s) (hl : Rd w 8 encCa A l) : Calls Try.prog 65 #[.agg #[.slice s.Ar s.rooms.length s.cr, .slice s.Ag s.gates.length s.cg, .slice s.As s.staff.length s.cs], .slice A l.length cc] w (fun e w' => e = .returned (.bool (logB s.s l)) ∧ Grow w w') := by
  have hlr := hs.rooms.len
  have hls := hs.staff.len
  have hll := hl.len
  refine enter_pure (args := [.agg #[.slice s.Ar s.rooms.length s.cr, .slice s.Ag s.gates.length s.cg, .slice s.As s.staff.length s.cs], .slice A l.length cc]) [sl (fun b => b < w.heap.size) 8 encCa A l] Try.func65 rfl (by rw [Try.ntmps65]; simp) (fun g hg => by simp at hg; subst hg; exact ⟨hl, fun _ h => h⟩) ?_
  refine cj_seq (cj_region ?_)
  refine oj_box rfl rfl rfl (fun b2 => ?_)
  refine oj_step (y_assign rfl) rfl rfl rfl ?_
  refine oj_nil ?_
  refine ej_th (cj_seq ?_)
  refine cj_regionG (gj_step (y_assign rfl) rfl rfl rfl (gj_nil ?_))
  refine ej_th (cj_seq (cj_seq ?_))
  refine cj_regionG (gj_step (y_move rfl) rfl rfl rfl (gj_step (y_lenA Try.underlying45 rfl) rfl rfl rfl (gj_step (y_move rfl) rfl rfl rfl (gj_nil ?_))))
  refine ej_th (cj_block ?_)
  refine cj_lpic (X := Nat × Int) [(1, _), (2, _), (11, _), (12, _)] (fun ⟨k, last⟩ => k ≤ l.length ∧ formB s.s last (l.drop k) = formB s.s 0 l) (fun ⟨k, last⟩ => [(5, .int .i64 last), (13, .int .i64 (k : Nat))]) (fun ⟨k, last⟩ => l.length - k) (0, 0) (⟨Nat.zero_le _, rfl⟩) ⟨rfl, rfl, rfl, rfl, rfl, rfl, trivial⟩ ?_
  rintro ⟨k, last⟩ ⟨hk, hsk⟩
  dsimp only [List.cons_append, List.nil_append]
  refine cj_seq ?_
  refine cj_regionG (gj_step (y_lss rfl rfl) rfl rfl rfl (gj_nil ?_))
  refine ej_th (cj_seq ?_)
  refine cj_cond rfl (fun h14 => ?_) (fun h14 => ?_)
  · have h14b := h14
    try simp only [sxb] at h14
    obtain ⟨c, hck⟩ : ∃ c, l[k]? = some c := ⟨_, List.getElem?_eq_getElem (by omega)⟩
    rw [form_drop s.s last hck] at hsk
    refine cj_skip (ej_th (cj_seq (cj_block (cj_seq (cj_region ?_)))))
    refine oj_step (y_ixR (reads_sl) Try.underlying45 Try.sizeOf52 rfl rfl (⟨by omega, by omega⟩)) rfl rfl rfl ?_
    refine oj_step (y_ldW (reads_sl) Try.isAgg52 Try.sizeOf52 rfl (hck) (fun _ => rfl)) rfl rfl rfl ?_
    refine oj_alloc Try.zeroValue52 rfl rfl (fun b7 => ?_)
    refine oj_store rfl rfl rfl rfl Try.sizeOf52 rfl ?_
    refine oj_nil ?_
    refine ej_th (cj_seq (cj_seq ?_))
    refine cj_regionG ?_
    refine gj_step (y_fa0 fa52_0 rfl) rfl rfl rfl (gj_step (y_load1 Try.isAgg3 rfl rfl) rfl rfl rfl (gj_step (y_move rfl) rfl rfl rfl (?_)))
    refine gj_step (y_call Try.call46 rfl (fun w hp => k_within _ _ _ w)) rfl rfl rfl ?_
    refine gj_step (y_not rfl) rfl rfl rfl (gj_step (y_move rfl) rfl rfl rfl (?_))
    refine gj_g 4 22 26 rfl rfl rfl rfl (fun hg22 => gj_yes rfl rfl rfl (y_fa fa52_2 rfl) rfl rfl (gj_yes rfl rfl rfl (y_load1 Try.isAgg3 rfl rfl) rfl rfl (gj_yes rfl rfl rfl (y_call Try.call46 rfl (fun w hp => k_within _ _ _ w)) rfl rfl (gj_yes rfl rfl rfl (y_not rfl) rfl rfl (gj_nil rfl))))) ?_
    refine gj_step (y_or rfl rfl rfl) rfl rfl rfl (gj_step (y_move rfl) rfl rfl rfl (?_))
    refine gj_g 8 28 36 rfl rfl rfl rfl (fun hg28 => gj_yes rfl rfl rfl (y_fa fa52_4 rfl) rfl rfl (gj_yes rfl rfl rfl (y_load1 Try.isAgg3 rfl rfl) rfl rfl (gj_yes rfl rfl rfl (y_fa fa26_2 rfl) rfl rfl (gj_yes rfl rfl rfl (y_load1 Try.isAgg24 rfl rfl) rfl rfl (gj_yes rfl rfl rfl (y_lenA Try.underlying24 rfl) rfl rfl (gj_yes rfl rfl rfl (y_sub rfl rfl (by omega)) rfl rfl (gj_yes rfl rfl rfl (y_call Try.call46 rfl (fun w hp => k_within _ _ _ w)) rfl rfl (gj_yes rfl rfl rfl (y_not rfl) rfl rfl (gj_nil rfl))))))))) ?_
    refine gj_step (y_or rfl rfl rfl) rfl rfl rfl (gj_step (y_move rfl) rfl rfl rfl (?_))
    refine gj_g 8 38 46 rfl rfl rfl rfl (fun hg38 => gj_yes rfl rfl rfl (y_fa fa52_5 rfl) rfl rfl (gj_yes rfl rfl rfl (y_load1 Try.isAgg3 rfl rfl) rfl rfl (gj_yes rfl rfl rfl (y_fa fa26_2 rfl) rfl rfl (gj_yes rfl rfl rfl (y_load1 Try.isAgg24 rfl rfl) rfl rfl (gj_yes rfl rfl rfl (y_lenA Try.underlying24 rfl) rfl rfl (gj_yes rfl rfl rfl (y_sub rfl rfl (by omega)) rfl rfl (gj_yes rfl rfl rfl (y_call Try.call46 rfl (fun w hp => k_within _ _ _ w)) rfl rfl (gj_yes rfl rfl rfl (y_not rfl) rfl rfl (gj_nil rfl))))))))) ?_
    refine gj_step (y_or rfl rfl rfl) rfl rfl rfl (gj_step (y_move rfl) rfl rfl rfl (?_))
    refine gj_g 5 48 53 rfl rfl rfl rfl (fun hg48 => gj_yes rfl rfl rfl (y_fa fa52_4 rfl) rfl rfl (gj_yes rfl rfl rfl (y_load1 Try.isAgg3 rfl rfl) rfl rfl (gj_yes rfl rfl rfl (y_fa fa52_5 rfl) rfl rfl (gj_yes rfl rfl rfl (y_load1 Try.isAgg3 rfl rfl) rfl rfl (gj_yes rfl rfl rfl (y_eql rfl rfl) rfl rfl (gj_nil rfl)))))) ?_
    refine gj_step (y_or rfl rfl rfl) rfl rfl rfl (?_)
    refine gj_nil ?_
    refine ej_th ?_
    refine cj_cond rfl (fun h54 => ?_) (fun h54 => ?_)
    · have h54b := h54
      try simp only [sxb] at h54
      rw [car1_V] at h54b
      refine cj_seq ?_
      refine cj_regionG (gj_step (y_assign rfl) rfl rfl rfl (gj_nil ?_))
      refine ej_th (cj_ret (ej_then_ret (ej_blk_ret (ej_then_ret (ej_then_ret (ej_blk_ret (ej_then_ret ?_)))))))
      refine ej_ret1 rfl Try.results65 rfl (fun w' hp => ⟨?_, hp.below⟩)
      rw [logB_no]
      rw [← hsk, car_eq, not_t h54b]; rfl
    · have h54b := h54
      try simp only [sxb] at h54
      rw [car1_V] at h54b
      refine cj_skip (ej_th (cj_seq ?_))
      refine cj_regionG (gj_step (y_fa0 fa52_0 rfl) rfl rfl rfl (gj_step (y_load1 Try.isAgg3 rfl rfl) rfl rfl rfl (gj_step (y_assign rfl) rfl rfl rfl (gj_nil ?_))))
      refine ej_th (cj_seq ?_)
      refine cj_draw (by kernel_rfl) (by kernel_rfl) ?_
      refine gj_step (y_fa fa52_3 rfl) rfl rfl rfl (gj_step (y_load1 Try.isAgg3 rfl rfl) rfl rfl rfl (gj_step (y_fa0 fa26_0 rfl) rfl rfl rfl (gj_step (y_load1 Try.isAgg22 rfl rfl) rfl rfl rfl (gj_step (y_lenA Try.underlying22 rfl) rfl rfl rfl (gj_step (y_sub rfl rfl (by omega)) rfl rfl rfl (?_))))))
      refine gj_step (y_call Try.call46 rfl (fun w hp => k_within _ _ _ w)) rfl rfl rfl ?_
      refine gj_step (y_fa fa52_6 rfl) rfl rfl rfl (gj_step (y_load1 Try.isAgg3 rfl rfl) rfl rfl rfl (?_))
      refine gj_step (y_call Try.call46 rfl (fun w hp => k_within _ _ _ w)) rfl rfl rfl ?_
      refine gj_step (y_assign rfl) rfl rfl rfl (gj_step (y_assign rfl) rfl rfl rfl (?_))
      refine gj_nil ?_
      refine ej_th (cj_seq ?_)
      refine cj_regionG (gj_step (y_assign rfl) rfl rfl rfl (gj_nil ?_))
      refine ej_th ?_
      refine cj_cutic (X := Bool) [(5, _), (13, _), (1, _), (2, _), (11, _), (12, _)] ⟨rfl, rfl, rfl, rfl, rfl, rfl, trivial⟩ (fun x => x = kindB s.rooms.length c) (fun x => [(10, .bool x)]) ?_ ?_
      · refine cj_seq ?_
        refine cj_regionG (gj_step (y_fa fa52_1 rfl) rfl rfl rfl (gj_step (y_load1 Try.isAgg3 rfl rfl) rfl rfl rfl (gj_nil ?_)))
        refine ej_th (cj_block (cj_seq ?_))
        refine cj_regionG (gj_step (y_eql rfl rfl) rfl rfl rfl (gj_step (y_assign rfl) rfl rfl rfl (gj_nil ?_)))
        refine ej_th ?_
        refine cj_cond rfl (fun h69 => ?_) (fun h69 => ?_)
        · have h69b := h69
          try simp only [sxb] at h69
          refine cj_regionG ?_
          refine gj_step (y_move rfl) rfl rfl rfl (gj_step (y_move rfl) rfl rfl rfl (?_))
          refine gj_g 1 72 73 rfl rfl rfl rfl (fun hg72 => gj_yes rfl rfl rfl (y_move rfl) rfl rfl (gj_nil rfl)) ?_
          refine gj_step (y_and rfl rfl rfl) rfl rfl rfl (gj_step (y_move rfl) rfl rfl rfl (?_))
          refine gj_g 3 75 78 rfl rfl rfl rfl (fun hg75 => gj_yes rfl rfl rfl (y_fa fa52_7 rfl) rfl rfl (gj_yes rfl rfl rfl (y_load1 Try.isAgg3 rfl rfl) rfl rfl (gj_yes rfl rfl rfl (y_call Try.call46 rfl (fun w hp => k_within _ _ _ w)) rfl rfl (gj_nil rfl)))) ?_
          refine gj_step (y_and rfl rfl rfl) rfl rfl rfl (gj_step (y_assign rfl) rfl rfl rfl (?_))
          refine gj_nil ?_
          refine ej_blk ?_
          exact ej_ct _ (by rw [kindB, if_pos h69]) ⟨rfl, rfl, rfl, rfl, rfl, rfl, rfl, trivial⟩
        · have h69b := h69
          try simp only [sxb] at h69
          refine cj_seq ?_
          refine cj_regionG (gj_step (y_eql rfl rfl) rfl rfl rfl (gj_step (y_assign rfl) rfl rfl rfl (gj_nil ?_)))
          refine ej_th ?_
          refine cj_cond rfl (fun h80 => ?_) (fun h80 => ?_)
          · have h80b := h80
            try simp only [sxb] at h80
            refine cj_regionG (gj_step (y_move rfl) rfl rfl rfl (gj_step (y_move rfl) rfl rfl rfl (gj_g 3 83 86 rfl rfl rfl rfl (fun hg83 => gj_yes rfl rfl rfl (y_fa fa52_6 rfl) rfl rfl (gj_yes rfl rfl rfl (y_load1 Try.isAgg3 rfl rfl) rfl rfl (gj_yes rfl rfl rfl (y_eql rfl rfl) rfl rfl (gj_nil rfl)))) (gj_step (y_and rfl rfl rfl) rfl rfl rfl (gj_step (y_move rfl) rfl rfl rfl (gj_g 3 88 91 rfl rfl rfl rfl (fun hg88 => gj_yes rfl rfl rfl (y_fa fa52_7 rfl) rfl rfl (gj_yes rfl rfl rfl (y_load1 Try.isAgg3 rfl rfl) rfl rfl (gj_yes rfl rfl rfl (y_eql rfl rfl) rfl rfl (gj_nil rfl)))) (gj_step (y_and rfl rfl rfl) rfl rfl rfl (gj_step (y_assign rfl) rfl rfl rfl (gj_nil ?_)))))))))
            refine ej_blk ?_
            exact ej_ct _ (by rw [kindB, if_neg h69, if_pos h80]; rfl) ⟨rfl, rfl, rfl, rfl, rfl, rfl, rfl, trivial⟩
          · have h80b := h80
            try simp only [sxb] at h80
            refine cj_cutic (X := Bool) [(5, _), (13, _), (1, _), (2, _), (11, _), (12, _), (7, _), (9, _), (10, _), (68, _)] ⟨rfl, rfl, rfl, rfl, rfl, rfl, rfl, rfl, rfl, rfl, trivial⟩ (fun z => z = decide (c.kind = 3 ∨ c.kind = 4)) (fun z => [(93, .bool z)]) ?_ ?_
            · refine cj_seq ?_
              refine cj_regionG (gj_step (y_eql rfl rfl) rfl rfl rfl (gj_step (y_assign rfl) rfl rfl rfl (gj_nil ?_)))
              refine ej_th ?_
              refine cj_cond rfl (fun h93 => ?_) (fun h93 => ?_)
              · have h93b := h93
                try simp only [sxb] at h93
                try have hz := of_decide_eq_true (hzz.symm.trans h93b)
                refine cj_skip ?_
                exact ej_ct _ (by simp [h93]) ⟨rfl, rfl, rfl, rfl, rfl, rfl, rfl, rfl, rfl, rfl, rfl, trivial⟩
              · have h93b := h93
                try simp only [sxb] at h93
                try have hz := of_decide_eq_false (hzz.symm.trans h93b)
                refine cj_regionG (gj_step (y_eql rfl rfl) rfl rfl rfl (gj_step (y_assign rfl) rfl rfl rfl (gj_nil ?_)))
                exact ej_ct _ (by by_cases h4 : c.kind = 4 <;> simp [h93, h4]) ⟨rfl, rfl, rfl, rfl, rfl, rfl, rfl, rfl, rfl, rfl, rfl, trivial⟩
            · rintro z hzz
              dsimp only [List.cons_append, List.nil_append]
              refine cj_cond rfl (fun h93 => ?_) (fun h93 => ?_)
              · have h93b := h93
                try simp only [sxb] at h93
                try have hz := of_decide_eq_true (hzz.symm.trans h93b)
                refine cj_regionG (gj_step (y_fa fa52_3 rfl) rfl rfl rfl (gj_step (y_load1 Try.isAgg3 rfl rfl) rfl rfl rfl (gj_step (y_eql rfl rfl) rfl rfl rfl (gj_step (y_move rfl) rfl rfl rfl (gj_g 1 99 100 rfl rfl rfl rfl (fun hg99 => gj_yes rfl rfl rfl (y_move rfl) rfl rfl (gj_nil rfl)) (gj_step (y_and rfl rfl rfl) rfl rfl rfl (gj_step (y_move rfl) rfl rfl rfl (gj_g 3 102 105 rfl rfl rfl rfl (fun hg102 => gj_yes rfl rfl rfl (y_fa fa52_7 rfl) rfl rfl (gj_yes rfl rfl rfl (y_load1 Try.isAgg3 rfl rfl) rfl rfl (gj_yes rfl rfl rfl (y_eql rfl rfl) rfl rfl (gj_nil rfl)))) (gj_step (y_and rfl rfl rfl) rfl rfl rfl (gj_step (y_assign rfl) rfl rfl rfl (gj_nil ?_)))))))))))
                refine ej_blk ?_
                exact ej_ct _ (by rw [kindB, if_neg h69, if_neg h80, if_pos hz]; rfl) ⟨rfl, rfl, rfl, rfl, rfl, rfl, rfl, trivial⟩
              · have h93b := h93
                try simp only [sxb] at h93
                try have hz := of_decide_eq_false (hzz.symm.trans h93b)
                refine cj_seq ?_
                refine cj_regionG (gj_step (y_eql rfl rfl) rfl rfl rfl (gj_step (y_assign rfl) rfl rfl rfl (gj_nil ?_)))
                refine ej_th ?_
                refine cj_cond rfl (fun h107 => ?_) (fun h107 => ?_)
                · have h107b := h107
                  try simp only [sxb] at h107
                  refine cj_regionG (gj_step (y_fa fa52_3 rfl) rfl rfl rfl (gj_step (y_load1 Try.isAgg3 rfl rfl) rfl rfl rfl (gj_step (y_eql rfl rfl) rfl rfl rfl (gj_step (y_move rfl) rfl rfl rfl (gj_g 3 112 115 rfl rfl rfl rfl (fun hg112 => gj_yes rfl rfl rfl (y_fa fa52_6 rfl) rfl rfl (gj_yes rfl rfl rfl (y_load1 Try.isAgg3 rfl rfl) rfl rfl (gj_yes rfl rfl rfl (y_eql rfl rfl) rfl rfl (gj_nil rfl)))) (gj_step (y_and rfl rfl rfl) rfl rfl rfl (gj_step (y_move rfl) rfl rfl rfl (gj_g 3 117 120 rfl rfl rfl rfl (fun hg117 => gj_yes rfl rfl rfl (y_fa fa52_7 rfl) rfl rfl (gj_yes rfl rfl rfl (y_load1 Try.isAgg3 rfl rfl) rfl rfl (gj_yes rfl rfl rfl (y_eql rfl rfl) rfl rfl (gj_nil rfl)))) (gj_step (y_and rfl rfl rfl) rfl rfl rfl (gj_step (y_assign rfl) rfl rfl rfl (gj_nil ?_)))))))))))
                  refine ej_blk ?_
                  exact ej_ct _ (by rw [kindB, if_neg h69, if_neg h80, if_neg hz, if_pos h107]; rfl) ⟨rfl, rfl, rfl, rfl, rfl, rfl, rfl, trivial⟩
                · have h107b := h107
                  try simp only [sxb] at h107
                  refine cj_skip (ej_blk ?_)
                  exact ej_ct _ (by rw [kindB, if_neg h69, if_neg h80, if_neg hz, if_neg h107]) ⟨rfl, rfl, rfl, rfl, rfl, rfl, rfl, trivial⟩
      · rintro x rfl
        dsimp only [List.cons_append, List.nil_append]
        refine cj_seq ?_
        refine cj_regionG (gj_step (y_move rfl) rfl rfl rfl (gj_step (y_not rfl) rfl rfl rfl (gj_nil ?_)))
        refine ej_th ?_
        refine cj_cond rfl (fun h123 => ?_) (fun h123 => ?_)
        · have h123b := h123
          try simp only [sxb] at h123
          refine cj_seq ?_
          refine cj_regionG (gj_step (y_assign rfl) rfl rfl rfl (gj_nil ?_))
          refine ej_th (cj_ret (ej_blk_ret (ej_then_ret (ej_then_ret (ej_blk_ret (ej_then_ret ?_))))))
          refine ej_ret1 rfl Try.results65 rfl (fun w' hp => ⟨?_, hp.below⟩)
          rw [logB_no]
          rw [← hsk, car_eq, not_t h123b, Bool.and_false]; rfl
        · have h123b := h123
          try simp only [sxb] at h123
          refine cj_skip (ej_blk (ej_th ?_))
          refine cj_regionG (gj_step (y_add rfl rfl (by omega)) rfl rfl rfl (gj_step (y_move rfl) rfl rfl rfl (gj_nil ?_)))
          exact ej_nx (k + 1, c.day) (by first | omega | (simp only; omega)) ⟨by first | omega | (simp only; omega), by rw [← hsk, car_eq, not_f h54b, not_f h123b]; rfl⟩ ⟨rfl, rfl, rfl, rfl, rfl, rfl, trivial⟩
  · have h14b := h14
    try simp only [sxb] at h14
    refine cj_exit (ej_then_exit (ej_then_exit (ej_blk_hit (ej_th (cj_seq ?_)))))
    refine cj_regionG (gj_step (y_move rfl) rfl rfl rfl (gj_step (y_lenA Try.underlying45 rfl) rfl rfl rfl (gj_step (y_leq rfl rfl) rfl rfl rfl (gj_step (y_assign rfl) rfl rfl rfl (gj_nil ?_)))))
    refine ej_th (cj_ret ?_)
    refine ej_ret1 rfl Try.results65 rfl (fun w' hp => ⟨?_, hp.below⟩)
    rw [logB_yes]
    rw [← hsk, List.drop_of_length_le (by omega)]; rfl

abbrev chP (n : Int) : List PanicEntry := [{ v := .iface 114 (.agg #[.int .i64 n]), recovered := false }]
abbrev logB1 (b : Nat) (s : StrV) (m : Nat) (st : LogV) : Fact := ownB b (cellsB 95 (logC s m st))
abbrev lgF (b m : Nat) (s : StrV) (st : LogV) : List Fact := [logB1 b s m st, mp ekI evB m (sealL st.seals)]

theorem k_need (p : Bool) (n : Int) (w : World)  : Calls Try.prog 104 #[.bool p, .int .i64 n] w (fun e w' => e = endP p (.tuple #[]) (chP n) ∧ Grow w w') := by
  refine enter_pure (args := [.bool p, .int .i64 n]) [] Try.func104 rfl (by rw [Try.ntmps104]; simp) (by simp) ?_
  refine cj_seq ?_
  refine cj_regionG (gj_step (y_move rfl) rfl rfl rfl (gj_step (y_not rfl) rfl rfl rfl (gj_nil ?_)))
  refine ej_th ?_
  refine cj_cond rfl (fun h5 => ?_) (fun h5 => ?_)
  · have h5b := h5
    try simp only [sxb] at h5
    have hpf := not_t h5b
    refine cj_region ?_
    refine oj_step (y_move rfl) rfl rfl rfl ?_
    refine oj_step (y_build (cs := [.int .i64 n]) st114 rfl (by kernel_rfl)) rfl rfl rfl ?_
    refine oj_step (y_iface rfl (by kernel_rfl)) rfl rfl rfl ?_
    refine oj_panic rfl ?_
    repeat (first | with_reducible refine ej_then_pan ?_ | with_reducible refine ej_blk_pan ?_ | with_reducible refine ej_noGoto_pan ?_ | with_reducible refine ej_np_pan ?_)
    exact ej_pan rfl (fun w' hp => ⟨by rw [hpf]; rfl, hp.below⟩)
  · have h5b := h5
    try simp only [sxb] at h5
    have hpt := not_f h5b
    refine cj_skip ?_
    exact ej_end0 rfl Try.results104 (fun w' hp => ⟨by rw [hpt]; rfl, hp.below⟩)

theorem k_reaches (s : StrV) (st : LogV) (c : CarryV) (room : Int) (b m : Nat) (w : World) (hs : StrRd w s) (hb : strB s.s = true) (hc : COk s.s c) (hlg : (logB1 b s m st).P w) (hr : 0 ≤ room ∧ room ≤ 5) : Calls Try.prog 105 #[.pointer (some ⟨b, 0, none⟩), .agg #[.int .i64 c.day, .int .i64 c.kind, .int .i64 c.bag, .int .i64 c.to_, .int .i64 c.by_, .int .i64 c.with_, .int .i64 c.mark, .int .i64 c.suits], .int .i64 room] w (fun e w' => e = endP ((reachC s.s c).testBit room.toNat) (.tuple #[]) (chP 45) ∧ Grow w w') := by
  have hok := StrOk.of hb
  have hnr := hok.nr
  have hng := hok.ng
  have hns := hok.ns
  have hsl : s.s.staff.length = s.staff.length := rfl
  have hsr : s.s.rooms.length = s.rooms.length := rfl
  have hcb := hc.by_
  have hcw := hc.with_
  have hg64 : grpC c < 64 := Nat.lt_of_lt_of_le (grp_lt hc) (pow_le64 hns.2)
  have hrl := reachV_lt hb (grpC c)
  have h64r : 2 ^ s.s.rooms.length ≤ 64 := pow_le64 hnr.2
  have hp1 := pow_bd (k := c.by_.toNat) (n := 6) (by omega) (by omega)
  have hp2 := pow_bd (k := c.with_.toNat) (n := 6) (by omega) (by omega)
  have hp3 := pow_bd (k := room.toNat) (n := 6) (by omega) (by omega)
  refine enter_pure (args := [.pointer (some ⟨b, 0, none⟩), .agg #[.int .i64 c.day, .int .i64 c.kind, .int .i64 c.bag, .int .i64 c.to_, .int .i64 c.by_, .int .i64 c.with_, .int .i64 c.mark, .int .i64 c.suits], .int .i64 room]) [logB1 b s m st] Try.func105 rfl (by rw [Try.ntmps105]; simp) (fun f hf => by
    simp only [List.mem_cons, List.mem_nil_iff, or_false] at hf
    rcases hf with rfl
    · exact ⟨hlg, fun i hi => by have : i = b := hi; subst this; exact (Array.getElem?_eq_some_iff.1 hlg).1⟩) ?_
  refine cj_seq (cj_region ?_)
  refine oj_box rfl rfl rfl (fun b4 => ?_)
  refine oj_nil ?_
  refine ej_th ?_
  refine cj_plan 17 (by kernel_rfl) (by kernel_rfl) ?_
  refine pl_y 0 rfl (y_move rfl) rfl rfl rfl rfl (by kernel_rfl) ?_
  refine pl_y 1 rfl (y_nil rfl) rfl rfl rfl rfl (by kernel_rfl) ?_
  refine pl_y 2 rfl (y_fa0 fa95_0 rfl) rfl rfl rfl rfl (by kernel_rfl) ?_
  refine pl_y 3 rfl (y_loadSN Try.isAgg26 Try.sizeOf26 rfl) rfl rfl rfl rfl (by kernel_rfl) ?_
  refine pl_y 4 rfl (y_fa fa52_4 rfl) rfl rfl rfl rfl (by kernel_rfl) ?_
  refine pl_y 5 rfl (y_load1 Try.isAgg3 rfl rfl) rfl rfl rfl rfl (by kernel_rfl) ?_
  refine pl_y 6 rfl (y_shl1I rfl rfl (by omega) (by omega)) rfl rfl rfl rfl (by kernel_rfl) ?_
  refine pl_y 7 rfl (y_fa fa52_5 rfl) rfl rfl rfl rfl (by kernel_rfl) ?_
  refine pl_y 8 rfl (y_load1 Try.isAgg3 rfl rfl) rfl rfl rfl rfl (by kernel_rfl) ?_
  refine pl_y 9 rfl (y_shl1I rfl rfl (by omega) (by omega)) rfl rfl rfl rfl (by kernel_rfl) ?_
  refine pl_y 10 rfl (y_orN rfl rfl (by omega) (by omega)) rfl rfl rfl rfl (by kernel_rfl) ?_
  refine pl_y 11 rfl (y_build (cs := [.slice s.Ar s.rooms.length s.cr, .slice s.Ag s.gates.length s.cg, .slice s.As s.staff.length s.cs, .int .i64 (grpC c : Nat)]) st76 rfl (by kernel_rfl)) rfl rfl rfl rfl (by kernel_rfl) ?_
  refine pl_y 12 rfl (y_call Try.call43 rfl (fun w hp => k_reach s (grpC c) w (hs.mono hp.below) hb hg64)) rfl rfl rfl rfl (by kernel_rfl) ?_
  refine pl_y 13 rfl (y_move rfl) rfl rfl rfl rfl (by kernel_rfl) ?_
  refine pl_y 14 rfl (y_shl1I rfl rfl (by omega) (by omega)) rfl rfl rfl rfl (by kernel_rfl) ?_
  refine pl_y 15 rfl (y_call Try.call55 rfl (fun w hp => k_has (reachV s.s (grpC c)) (2 ^ room.toNat) w (by omega) (by omega))) rfl rfl rfl rfl (by kernel_rfl) ?_
  refine pl_w1 16 (by kernel_rfl) rfl rfl (pl_fire rfl rfl rfl (by kernel_rfl) ?_)
  refine oj_callP Try.call104 rfl (fun w1 hp => k_need _ _ w1) rfl (fun hpF => ?_) (fun hpT => ?_)
  · repeat (first | with_reducible refine ej_then_pan ?_ | with_reducible refine ej_blk_pan ?_ | with_reducible refine ej_noGoto_pan ?_ | with_reducible refine ej_np_pan ?_)
    exact ej_pan rfl (fun w2 hp => ⟨by rw [← hasN_bit]; unfold reachC; rw [hpF]; rfl, hp.below⟩)
  refine oj_nil ?_
  refine ej_pl (lt_w (by kernel_rfl) (lt_y (y_shl1I rfl rfl (by omega) (by omega)) rfl (lt_y (y_move rfl) rfl (lt_y (y_call Try.call43 rfl (fun w hp => k_reach s (grpC c) w (hs.mono hp.below) hb hg64)) rfl (lt_y (y_build (cs := [.slice s.Ar s.rooms.length s.cr, .slice s.Ag s.gates.length s.cg, .slice s.As s.staff.length s.cs, .int .i64 (grpC c : Nat)]) st76 rfl (by kernel_rfl)) rfl (lt_y (y_orN rfl rfl (by omega) (by omega)) rfl (lt_y (y_shl1I rfl rfl (by omega) (by omega)) rfl (lt_y (y_load1 Try.isAgg3 rfl rfl) rfl (lt_y (y_fa fa52_5 rfl) rfl (lt_y (y_shl1I rfl rfl (by omega) (by omega)) rfl (lt_y (y_load1 Try.isAgg3 rfl rfl) rfl (lt_y (y_fa fa52_4 rfl) rfl (lt_y (y_loadSN Try.isAgg26 Try.sizeOf26 rfl) rfl (lt_y (y_fa0 fa95_0 rfl) rfl (lt_y (y_nil rfl) rfl (lt_y (y_move rfl) rfl (lt_nil))))))))))))))))) ?_
  refine pl_end (by kernel_rfl) ?_
  exact ej_end0 rfl Try.results105 (fun w' hp => ⟨by rw [← hasN_bit]; unfold reachC; rw [hpT]; rfl, hp.below⟩)

set_option maxHeartbeats 1000000 in
theorem k_put0 (s : StrV) (st : LogV) (c : CarryV) (uu : Nat) (b m : Nat) (w : World) (hs : StrRd w s) (hb : strB s.s = true) (hlg : (logB1 b s m st).P w) (hl : Len st) (hr : 0 ≤ c.to_ ∧ c.to_ < s.rooms.length) (hu : uu ≤ 15) : Calls Try.prog 106 #[.pointer (some ⟨b, 0, none⟩), .agg #[.int .i64 c.day, .int .i64 c.kind, .int .i64 c.bag, .int .i64 c.to_, .int .i64 c.by_, .int .i64 c.with_, .int .i64 c.mark, .int .i64 c.suits], .int .i64 (uu : Nat)] w (fun e w' => e = endP (decide (putE s.s st c uu = 0)) (.tuple #[]) (chP (putE s.s st c uu)) ∧ Grow w w') := by
  have hro := roomAt_ok hb hr.1 hr.2
  obtain ⟨hro, hro1, hro2, hro3, hro4⟩ := hro
  have hb32 := hl.b
  have hbl := bags_len hl
  have hp3 := pow_bd (k := (roomAt s.s c.to_).climate.toNat) (n := 6) (by omega) (by omega)
  refine enter_pure (args := [.pointer (some ⟨b, 0, none⟩), .agg #[.int .i64 c.day, .int .i64 c.kind, .int .i64 c.bag, .int .i64 c.to_, .int .i64 c.by_, .int .i64 c.with_, .int .i64 c.mark, .int .i64 c.suits], .int .i64 (uu : Nat)]) [sl (fun b => b < w.heap.size) 3 encRo s.Ar s.rooms, sl (fun b => b < w.heap.size) 4 encGa s.Ag s.gates, sl (fun b => b < w.heap.size) 1 enInt s.As s.staff, logB1 b s m st] Try.func106 rfl (by rw [Try.ntmps106]; simp) (fun f hf => by
    simp only [List.mem_cons, List.mem_nil_iff, or_false] at hf
    rcases hf with rfl | rfl | rfl | rfl
    · exact ⟨hs.rooms, fun _ h => h⟩
    · exact ⟨hs.gates, fun _ h => h⟩
    · exact ⟨hs.staff, fun _ h => h⟩
    · exact ⟨hlg, fun i hi => by have : i = b := hi; subst this; exact (Array.getElem?_eq_some_iff.1 hlg).1⟩) ?_
  refine cj_seq (cj_region ?_)
  refine oj_box rfl rfl rfl (fun b4 => ?_)
  refine oj_nil ?_
  refine ej_th (cj_seq ?_)
  refine cj_regionG (gj_step (y_assign rfl) rfl rfl rfl (gj_nil ?_))
  refine ej_th (cj_seq (cj_seq ?_))
  refine cj_regionG (gj_step (y_move rfl) rfl rfl rfl (gj_step (y_nil rfl) rfl rfl rfl (gj_step (y_fa fa95_1 rfl) rfl rfl rfl (gj_step (y_loadSN (hv := tk_bags hl) Try.isAgg48 Try.sizeOf48 rfl) rfl rfl rfl (gj_step (y_move rfl) rfl rfl rfl (gj_nil ?_))))))
  refine ej_th (cj_block ?_)
  refine cj_lpic (X := Nat) [(0, _), (2, _), (4, _), (12, _)] (fun k => k ≤ 32) (fun k => [(6, .int .i64 (manyN (st.bags.take k) c.to_ : Nat)), (13, .int .i64 (k : Nat))]) (fun k => 32 - k) 0 (Nat.zero_le _) ⟨rfl, rfl, rfl, rfl, rfl, rfl, trivial⟩ ?_
  rintro k hk
  dsimp only [List.cons_append, List.nil_append]
  refine cj_seq ?_
  refine cj_regionG (gj_step (y_lss rfl rfl) rfl rfl rfl (gj_nil ?_))
  refine ej_th (cj_seq ?_)
  refine cj_cond rfl (fun h14 => ?_) (fun h14 => ?_)
  · have h14b := h14
    try simp only [sxb] at h14
    obtain ⟨bk, hbk⟩ : ∃ bk, st.bags[k]? = some bk := ⟨_, List.getElem?_eq_getElem (by omega)⟩
    have hms := many_step c.to_ hbk
    have hml : manyN (st.bags.take k) c.to_ ≤ 32 := Nat.le_trans List.countP_le_length (by rw [List.length_take]; omega)
    refine cj_skip (ej_th (cj_seq (cj_block (cj_seq (cj_region ?_)))))
    refine oj_step (y_indexAN Try.underlying48 Try.sizeOf47 Try.isAgg47 rfl rfl ⟨by omega, by omega⟩ (tk_bag (i := k) hbk)) rfl rfl rfl ?_
    refine oj_alloc Try.zeroValue47 rfl rfl (fun b8 => ?_)
    refine oj_store rfl rfl rfl rfl Try.sizeOf47 rfl ?_
    refine oj_nil ?_
    refine ej_th (cj_seq ?_)
    refine cj_regionG (gj_step (y_fa0 fa47_0 rfl) rfl rfl rfl (gj_step (y_load1 Try.isAgg3 rfl rfl) rfl rfl rfl (gj_step (y_fa fa52_3 rfl) rfl rfl rfl (gj_step (y_load1 Try.isAgg3 rfl rfl) rfl rfl rfl (gj_step (y_eql rfl rfl) rfl rfl rfl (gj_nil ?_))))))
    refine ej_th ?_
    refine cj_cond rfl (fun h20 => ?_) (fun h20 => ?_)
    · have h20b := h20
      try simp only [sxb] at h20
      refine cj_regionG (gj_step (y_move rfl) rfl rfl rfl (gj_step (y_add rfl rfl (by omega)) rfl rfl rfl (gj_step (y_assign rfl) rfl rfl rfl (gj_nil ?_))))
      refine ej_blk (ej_th ?_)
      refine cj_regionG (gj_step (y_add rfl rfl (by omega)) rfl rfl rfl (gj_step (y_move rfl) rfl rfl rfl (gj_nil ?_)))
      rw [if_pos h20] at hms
      rw [show ((manyN (st.bags.take k) c.to_ : Nat) : Int) + 1 = ((manyN (st.bags.take (k + 1)) c.to_ : Nat) : Int) by omega]
      exact ej_nx (k + 1) (by omega) (by omega) ⟨rfl, rfl, rfl, rfl, rfl, rfl, trivial⟩
    · have h20b := h20
      try simp only [sxb] at h20
      refine cj_skip (ej_blk (ej_th ?_))
      refine cj_regionG (gj_step (y_add rfl rfl (by omega)) rfl rfl rfl (gj_step (y_move rfl) rfl rfl rfl (gj_nil ?_)))
      rw [if_neg h20] at hms
      rw [show ((manyN (st.bags.take k) c.to_ : Nat) : Int) = ((manyN (st.bags.take (k + 1)) c.to_ : Nat) : Int) by omega]
      exact ej_nx (k + 1) (by omega) (by omega) ⟨rfl, rfl, rfl, rfl, rfl, rfl, trivial⟩
  · have h14b := h14
    try simp only [sxb] at h14
    have hmz : manyN (st.bags.take k) c.to_ = manyN st.bags c.to_ := by rw [List.take_of_length_le (by omega)]
    refine cj_exit (ej_then_exit (ej_then_exit (ej_blk_hit (ej_th (cj_seq ?_)))))
    refine cj_plan 13 (by kernel_rfl) (by kernel_rfl) ?_
    refine pl_y 0 rfl (y_move rfl) rfl rfl rfl rfl (by kernel_rfl) ?_
    refine pl_y 1 rfl (y_move rfl) rfl rfl rfl rfl (by kernel_rfl) ?_
    refine pl_y 2 rfl (y_nil rfl) rfl rfl rfl rfl (by kernel_rfl) ?_
    refine pl_y 3 rfl (y_fa0 fa95_0 rfl) rfl rfl rfl rfl (by kernel_rfl) ?_
    refine pl_y 4 rfl (y_fa0 fa26_0 rfl) rfl rfl rfl rfl (by kernel_rfl) ?_
    refine pl_y 5 rfl (y_loadS1 Try.isAgg22 rfl rfl) rfl rfl rfl rfl (by kernel_rfl) ?_
    refine pl_y 6 rfl (y_fa fa52_3 rfl) rfl rfl rfl rfl (by kernel_rfl) ?_
    refine pl_y 7 rfl (y_load1 Try.isAgg3 rfl rfl) rfl rfl rfl rfl (by kernel_rfl) ?_
    refine pl_y 8 rfl (y_ixR (reads_sl) Try.underlying22 Try.sizeOf71 rfl rfl (⟨by omega, by omega⟩)) rfl rfl rfl rfl (by kernel_rfl) ?_
    refine pl_y 9 rfl (y_faE fa71_0 rfl) rfl rfl rfl rfl (by kernel_rfl) ?_
    refine pl_y 10 rfl (y_ld1 (reads_sl) Try.isAgg3 rfl (hro) rfl) rfl rfl rfl rfl (by kernel_rfl) ?_
    refine pl_y 11 rfl (y_lss rfl rfl) rfl rfl rfl rfl (by kernel_rfl) ?_
    refine pl_w1 12 (by kernel_rfl) rfl rfl (pl_fire rfl rfl rfl (by kernel_rfl) ?_)
    refine oj_callP Try.call104 rfl (fun w1 hp => k_need _ _ w1) rfl (fun hpF => ?_) (fun hpT => ?_)
    · repeat (first | with_reducible refine ej_then_pan ?_ | with_reducible refine ej_blk_pan ?_ | with_reducible refine ej_noGoto_pan ?_ | with_reducible refine ej_np_pan ?_)
      have hE : putE s.s st c uu = 46 := by
        unfold putE
        rw [if_neg]
        rw [← hmz]; simpa using hpF
      exact ej_pan rfl (fun w2 hp => ⟨by rw [hE]; rfl, hp.below⟩)
    have hm36 : (manyN st.bags c.to_ : Int) < (roomAt s.s c.to_).hold := by rw [← hmz]; simpa using hpT
    refine oj_nil ?_
    refine ej_pl (lt_w (by kernel_rfl) (lt_y (y_ld1 (reads_sl) Try.isAgg3 rfl (hro) rfl) rfl (lt_y (y_faE fa71_0 rfl) rfl (lt_y (y_ixR (reads_sl) Try.underlying22 Try.sizeOf71 rfl rfl (⟨by omega, by omega⟩)) rfl (lt_y (y_load1 Try.isAgg3 rfl rfl) rfl (lt_y (y_fa fa52_3 rfl) rfl (lt_y (y_loadS1 Try.isAgg22 rfl rfl) rfl (lt_y (y_fa0 fa26_0 rfl) rfl (lt_y (y_fa0 fa95_0 rfl) rfl (lt_y (y_nil rfl) rfl (lt_y (y_move rfl) rfl (lt_y (y_move rfl) rfl (lt_nil))))))))))))) ?_
    refine pl_end (by kernel_rfl) ?_
    refine ej_th ?_
    refine cj_plan 14 (by kernel_rfl) (by kernel_rfl) ?_
    refine pl_y 0 rfl (y_move rfl) rfl rfl rfl rfl (by kernel_rfl) ?_
    refine pl_y 1 rfl (y_move rfl) rfl rfl rfl rfl (by kernel_rfl) ?_
    refine pl_y 2 rfl (y_nil rfl) rfl rfl rfl rfl (by kernel_rfl) ?_
    refine pl_y 3 rfl (y_fa0 fa95_0 rfl) rfl rfl rfl rfl (by kernel_rfl) ?_
    refine pl_y 4 rfl (y_fa0 fa26_0 rfl) rfl rfl rfl rfl (by kernel_rfl) ?_
    refine pl_y 5 rfl (y_loadS1 Try.isAgg22 rfl rfl) rfl rfl rfl rfl (by kernel_rfl) ?_
    refine pl_y 6 rfl (y_fa fa52_3 rfl) rfl rfl rfl rfl (by kernel_rfl) ?_
    refine pl_y 7 rfl (y_load1 Try.isAgg3 rfl rfl) rfl rfl rfl rfl (by kernel_rfl) ?_
    refine pl_y 8 rfl (y_ixR (reads_sl) Try.underlying22 Try.sizeOf71 rfl rfl (⟨by omega, by omega⟩)) rfl rfl rfl rfl (by kernel_rfl) ?_
    refine pl_y 9 rfl (y_faE fa71_1 rfl) rfl rfl rfl rfl (by kernel_rfl) ?_
    refine pl_y 10 rfl (y_ld1 (reads_sl) Try.isAgg3 rfl (hro) rfl) rfl rfl rfl rfl (by kernel_rfl) ?_
    refine pl_y 11 rfl (y_shl1I rfl rfl (by omega) (by omega)) rfl rfl rfl rfl (by kernel_rfl) ?_
    refine pl_y 12 rfl (y_call Try.call55 rfl (fun w hp => k_has uu (2 ^ (roomAt s.s c.to_).climate.toNat) w (by omega) (by omega))) rfl rfl rfl rfl (by kernel_rfl) ?_
    refine pl_w1 13 (by kernel_rfl) rfl rfl (pl_fire rfl rfl rfl (by kernel_rfl) ?_)
    refine oj_callP Try.call104 rfl (fun w1 hp => k_need _ _ w1) rfl (fun hpF => ?_) (fun hpT => ?_)
    · repeat (first | with_reducible refine ej_then_pan ?_ | with_reducible refine ej_blk_pan ?_ | with_reducible refine ej_noGoto_pan ?_ | with_reducible refine ej_np_pan ?_)
      have hE : putE s.s st c uu = 47 := by
        unfold putE
        rw [if_pos hm36, Int.toNat_natCast, ← hasN_bit, hpF]; rfl
      exact ej_pan rfl (fun w2 hp => ⟨by rw [hE]; rfl, hp.below⟩)
    refine oj_nil ?_
    refine ej_pl (lt_w (by kernel_rfl) (lt_y (y_shl1I rfl rfl (by omega) (by omega)) rfl (lt_y (y_ld1 (reads_sl) Try.isAgg3 rfl (hro) rfl) rfl (lt_y (y_faE fa71_1 rfl) rfl (lt_y (y_ixR (reads_sl) Try.underlying22 Try.sizeOf71 rfl rfl (⟨by omega, by omega⟩)) rfl (lt_y (y_load1 Try.isAgg3 rfl rfl) rfl (lt_y (y_fa fa52_3 rfl) rfl (lt_y (y_loadS1 Try.isAgg22 rfl rfl) rfl (lt_y (y_fa0 fa26_0 rfl) rfl (lt_y (y_fa0 fa95_0 rfl) rfl (lt_y (y_nil rfl) rfl (lt_y (y_move rfl) rfl (lt_y (y_move rfl) rfl (lt_nil)))))))))))))) ?_
    refine pl_end (by kernel_rfl) ?_
    have hE : putE s.s st c uu = 0 := by
      unfold putE
      rw [if_pos hm36, Int.toNat_natCast, ← hasN_bit, hpT]; rfl
    exact ej_end0 rfl Try.results106 (fun w' hp => ⟨by rw [hE]; rfl, hp.below⟩)

theorem k_put (s : StrV) (st : LogV) (c : CarryV) (u : Int) (b m : Nat) (w : World) (hs : StrRd w s) (hb : strB s.s = true) (hlg : (logB1 b s m st).P w) (hl : Len st) (hr : 0 ≤ c.to_ ∧ c.to_ < s.rooms.length) (hu : 0 ≤ u ∧ u ≤ 15) : Calls Try.prog 106 #[.pointer (some ⟨b, 0, none⟩), .agg #[.int .i64 c.day, .int .i64 c.kind, .int .i64 c.bag, .int .i64 c.to_, .int .i64 c.by_, .int .i64 c.with_, .int .i64 c.mark, .int .i64 c.suits], .int .i64 u] w (fun e w' => e = endP (decide (putE s.s st c u = 0)) (.tuple #[]) (chP (putE s.s st c u)) ∧ Grow w w') := by
  obtain ⟨uu, rfl⟩ : ∃ uu : Nat, u = uu := ⟨u.toNat, by omega⟩
  exact k_put0 s st c uu b m w hs hb hlg hl hr (by omega)

end Go.Proofs.Ytomidcehahdmbaa
namespace Go.Proofs.Ytomidcehahdmbaa
open Go.Sx Go.RowKit Vm
set_option maxRecDepth 20000
set_option maxHeartbeats 1000000 in
theorem k_lies (s : StrV) (st : LogV) (c : CarryV) (b m : Nat) (w : World) (hs : StrRd w s) (hb : strB s.s = true) (hc : COk s.s c) (hlg : (logB1 b s m st).P w) (hI : Inv s.s st) : Calls Try.prog 108 #[.pointer (some ⟨b, 0, none⟩), .agg #[.int .i64 c.day, .int .i64 c.kind, .int .i64 c.bag, .int .i64 c.to_, .int .i64 c.by_, .int .i64 c.with_, .int .i64 c.mark, .int .i64 c.suits]] w (fun e w' => e = endP (decide (lieE s.s st c = 0)) (.pointer (some ⟨b, 0 + 3 + c.bag.toNat * 5, none⟩)) (chP (lieE s.s st c)) ∧ Grow w w') := by
  have hl := inv_lens hI
  have hbg := hc.bag
  have hbn := hI.nums _ _ (bagAt_at hl hbg)
  refine enter_pure (args := [.pointer (some ⟨b, 0, none⟩), .agg #[.int .i64 c.day, .int .i64 c.kind, .int .i64 c.bag, .int .i64 c.to_, .int .i64 c.by_, .int .i64 c.with_, .int .i64 c.mark, .int .i64 c.suits]]) [logB1 b s m st] Try.func108 rfl (by rw [Try.ntmps108]; simp) (fun f hf => by
    simp only [List.mem_cons, List.mem_nil_iff, or_false] at hf
    rcases hf with rfl
    · exact ⟨hlg, fun i hi => by have : i = b := hi; subst this; exact (Array.getElem?_eq_some_iff.1 hlg).1⟩) ?_
  refine cj_seq (cj_region ?_)
  refine oj_box rfl rfl rfl (fun b3 => ?_)
  refine oj_step (y_assign rfl) rfl rfl rfl ?_
  refine oj_nil ?_
  refine ej_th (cj_seq ?_)
  refine cj_draw (by kernel_rfl) (by kernel_rfl) (gj_step (y_move rfl) rfl rfl rfl (gj_step (y_fa fa52_2 rfl) rfl rfl rfl (gj_step (y_load1 Try.isAgg3 rfl rfl) rfl rfl rfl (gj_step (y_nil rfl) rfl rfl rfl (gj_step (y_fa fa95_1 rfl) rfl rfl rfl (gj_step (y_ixArr Try.underlying48 Try.sizeOf47 rfl rfl (⟨by omega, by omega⟩)) rfl rfl rfl (gj_step (y_assign rfl) rfl rfl rfl (gj_nil ?_))))))))
  refine ej_th (cj_seq (cj_region ?_))
  refine oj_step (y_move rfl) rfl rfl rfl ?_
  refine oj_step (y_nil rfl) rfl rfl rfl ?_
  refine oj_step (y_fa0 fa47_0 rfl) rfl rfl rfl ?_
  refine oj_step (y_loadS1 Try.isAgg3 rfl (log_room hl hbg)) rfl rfl rfl ?_
  refine oj_step (y_gtr rfl rfl) rfl rfl rfl ?_
  refine oj_callP Try.call104 rfl (fun w1 hp => k_need _ _ w1) rfl (fun hpF => ?_) (fun hpT => ?_)
  · repeat (first | with_reducible refine ej_then_pan ?_ | with_reducible refine ej_blk_pan ?_ | with_reducible refine ej_noGoto_pan ?_ | with_reducible refine ej_np_pan ?_)
    have hE : lieE s.s st c = 44 := by
      have h9 : ¬ (0 : Int) < (bagAt st c.bag).room := by simpa using hpF
      rw [lieE, if_pos (by omega)]
    exact ej_pan rfl (fun w2 hp => ⟨by rw [hE]; rfl, hp.below⟩)
  have h17 : (0 : Int) < (bagAt st c.bag).room := by simpa using hpT
  refine oj_nil ?_
  refine ej_th (cj_seq ?_)
  refine cj_plan 7 (by kernel_rfl) (by kernel_rfl) ?_
  refine pl_y 0 rfl (y_move rfl) rfl rfl rfl rfl (by kernel_rfl) ?_
  refine pl_y 1 rfl (y_loadN Try.isAgg52 Try.sizeOf52 rfl) rfl rfl rfl rfl (by kernel_rfl) ?_
  refine pl_y 2 rfl (y_move rfl) rfl rfl rfl rfl (by kernel_rfl) ?_
  refine pl_y 3 rfl (y_nil rfl) rfl rfl rfl rfl (by kernel_rfl) ?_
  refine pl_y 4 rfl (y_fa0 fa47_0 rfl) rfl rfl rfl rfl (by kernel_rfl) ?_
  refine pl_y 5 rfl (y_loadS1 Try.isAgg3 rfl (log_room hl hbg)) rfl rfl rfl rfl (by kernel_rfl) ?_
  refine pl_w1 6 (by kernel_rfl) rfl rfl (pl_fire rfl rfl rfl (by kernel_rfl) ?_)
  refine oj_callP Try.call105 rfl (fun w1 hp => k_reaches s st c (bagAt st c.bag).room b m w1 (hs.mono hp.below) hb hc (hp.shared _ (.head _)).1 (by omega)) rfl (fun hpF => ?_) (fun hpT => ?_)
  · repeat (first | with_reducible refine ej_then_pan ?_ | with_reducible refine ej_blk_pan ?_ | with_reducible refine ej_noGoto_pan ?_ | with_reducible refine ej_np_pan ?_)
    have hE : lieE s.s st c = 45 := by
      rw [lieE, if_neg (by omega), if_neg (by rw [hpF]; simp)]
    exact ej_pan rfl (fun w2 hp => ⟨by rw [hE]; rfl, hp.below⟩)
  refine oj_nil ?_
  refine ej_pl (lt_w (by kernel_rfl) (lt_y (y_fa0 fa47_0 rfl) rfl (lt_y (y_nil rfl) rfl (lt_y (y_move rfl) rfl (lt_w (by kernel_rfl) (lt_w (by kernel_rfl) (lt_nil))))))) ?_
  refine pl_end (by kernel_rfl) ?_
  refine ej_th (cj_seq ?_)
  refine cj_regionG (gj_step (y_move rfl) rfl rfl rfl (gj_step (y_assign rfl) rfl rfl rfl (gj_nil ?_)))
  refine ej_th (cj_ret ?_)
  have hE : lieE s.s st c = 0 := by
    rw [lieE, if_neg (by omega), if_pos hpT]
  exact ej_ret1 rfl Try.results108 rfl (fun w' hp => ⟨by rw [hE]; rfl, hp.below⟩)

set_option maxHeartbeats 1000000 in
theorem k_seal (s : StrV) (st : LogV) (n : Int) (b m : Nat) (w : World) (hl : Len st) (hO : ∀ f ∈ (lgF b m s st), f.P w ∧ ∀ b, f.fp b → b < w.heap.size) (hap : (lgF b m s st).Pairwise (fun f g => ∀ b, f.fp b → ¬ g.fp b)) : Calls Try.prog 107 #[.pointer (some ⟨b, 0, none⟩), .int .i64 n] w (fun e w' => (∃ _ : Unit, sealE st n = 0 ∧ e = .returned (.tuple #[]) ∧ Giv (lgF b m s st) w w' (lgF b m s (addS st n))) ∨ (∃ _ : Unit, sealE st n ≠ 0 ∧ e = .panicked (chP (sealE st n)) ∧ Giv (lgF b m s st) w w' (lgF b m s st))) := by
  refine enterO (args := [.pointer (some ⟨b, 0, none⟩), .int .i64 n]) (lgF b m s st) [] Try.func107 rfl (by rw [Try.ntmps107]; simp) hO hap (fun _ h => by cases h) ?_
  refine cj_seq (cj_region ?_)
  refine oj_step (y_move rfl) rfl rfl rfl ?_
  refine oj_step (y_nil rfl) rfl rfl rfl ?_
  refine oj_step (y_fa fa95_3 rfl) rfl rfl rfl ?_
  refine oj_step (y_load1 Try.isAgg92 rfl (log_seals hl)) rfl rfl rfl ?_
  refine oj_step (y_move rfl) rfl rfl rfl ?_
  refine oj_step (y_lookup1 (ek := ekI) (ev := evB) (kk := n) false Try.underlying92 Try.underlying3 Try.zeroValue4 rfl rfl) rfl rfl rfl ?_
  refine oj_step (y_not rfl) rfl rfl rfl ?_
  refine oj_callP Try.call104 rfl (fun w1 hp => k_need _ _ w1) rfl (fun hpF => ?_) (fun hpT => ?_)
  · repeat (first | with_reducible refine ej_then_pan ?_ | with_reducible refine ej_blk_pan ?_ | with_reducible refine ej_noGoto_pan ?_ | with_reducible refine ej_np_pan ?_)
    rw [seal_get] at hpF
    have hE : sealE st n = 48 := by rw [sealE, if_pos (not_f hpF)]
    exact ej_pan rfl (fun w2 hp => .inr ⟨(), by omega, by rw [hE], hp.givT [logB1 b s m st, mp ekI evB m (sealL st.seals)]⟩)
  rw [seal_get] at hpT
  have hE : sealE st n = 0 := by rw [sealE, if_neg (by rw [not_t hpT]; simp)]
  refine oj_nil ?_
  refine ej_th (cj_region ?_)
  refine oj_step (y_move rfl) rfl rfl rfl ?_
  refine oj_step (y_nil rfl) rfl rfl rfl ?_
  refine oj_step (y_fa fa95_3 rfl) rfl rfl rfl ?_
  refine oj_step (y_load1 Try.isAgg92 rfl (log_seals hl)) rfl rfl rfl ?_
  refine oj_step (y_move rfl) rfl rfl rfl ?_
  refine oj_mapUpdate (ek := ekI) (ev := evB) (l := sealL st.seals) (kk := n) (v := true) Try.underlying92 Try.underlying3 rfl rfl rfl ?_
  rw [seal_put (not_t hpT)]
  refine oj_nil ?_
  exact ej_end0 rfl Try.results107 (fun w' hp => .inl ⟨(), hE, rfl, hp.givT [logB1 b s m st, mp ekI evB m (sealL (st.seals ++ [n]))]⟩)

end Go.Proofs.Ytomidcehahdmbaa
namespace Go.Proofs.Ytomidcehahdmbaa
open Go.Sx Go.RowKit Vm
set_option maxRecDepth 20000
set_option maxHeartbeats 1000000 in
theorem k_in (s : StrV) (st : LogV) (c : CarryV) (b m : Nat) (fp : Nat → Prop) (w : World) (hb : strB s.s = true) (hc : COk s.s c) (hI : Inv s.s st) (hk : c.kind = 1) (hO : ∀ f ∈ (lgF b m s st), f.P w ∧ ∀ b, f.fp b → b < w.heap.size) (hap : (lgF b m s st).Pairwise (fun f g => ∀ b, f.fp b → ¬ g.fp b)) (hS : ∀ g ∈ [strF fp s], g.P w ∧ ∀ i, g.fp i → i < w.heap.size ∧ ∀ f ∈ (lgF b m s st), ¬ f.fp i) : Calls Try.prog 95 #[.pointer (some ⟨b, 0, none⟩), .agg #[.int .i64 c.day, .int .i64 c.kind, .int .i64 c.bag, .int .i64 c.to_, .int .i64 c.by_, .int .i64 c.with_, .int .i64 c.mark, .int .i64 c.suits]] w (fun e w' => (∃ _ : Unit, stepE s.s st c = 0 ∧ e = .returned (.tuple #[]) ∧ Giv (lgF b m s st) w w' (lgF b m s (stepM st c))) ∨ (∃ _ : Unit, stepE s.s st c ≠ 0 ∧ e = .panicked (chP (stepE s.s st c)) ∧ Giv (lgF b m s st) w w' (lgF b m s st))) := by
  have hl := inv_lens hI
  have hbg := hc.bag
  have hsr : s.s.rooms.length = s.rooms.length := rfl
  have hrl := (StrOk.of hb).nr
  have hbn := hI.nums _ _ (bagAt_at hl hbg)
  refine enterO (args := [.pointer (some ⟨b, 0, none⟩), .agg #[.int .i64 c.day, .int .i64 c.kind, .int .i64 c.bag, .int .i64 c.to_, .int .i64 c.by_, .int .i64 c.with_, .int .i64 c.mark, .int .i64 c.suits]]) (lgF b m s st) [strF fp s] Try.func95 rfl (by rw [Try.ntmps95]; simp) hO hap hS ?_
  refine cj_seq (cj_region ?_)
  refine oj_box rfl rfl rfl (fun b3 => ?_)
  refine oj_nil ?_
  refine ej_th (cj_seq ?_)
  refine cj_plan 9 (by kernel_rfl) (by kernel_rfl) ?_
  refine pl_y 0 rfl (y_move rfl) rfl rfl rfl rfl (by kernel_rfl) ?_
  refine pl_y 1 rfl (y_fa fa52_2 rfl) rfl rfl rfl rfl (by kernel_rfl) ?_
  refine pl_y 2 rfl (y_load1 Try.isAgg3 rfl rfl) rfl rfl rfl rfl (by kernel_rfl) ?_
  refine pl_y 3 rfl (y_nil rfl) rfl rfl rfl rfl (by kernel_rfl) ?_
  refine pl_y 4 rfl (y_fa fa95_2 rfl) rfl rfl rfl rfl (by kernel_rfl) ?_
  refine pl_y 5 rfl (y_ixArr Try.underlying93 Try.sizeOf4 rfl rfl (by omega)) rfl rfl rfl rfl (by kernel_rfl) ?_
  refine pl_y 6 rfl (y_load1 Try.isAgg4 rfl (log_there hl hbg)) rfl rfl rfl rfl (by kernel_rfl) ?_
  refine pl_y 7 rfl (y_not rfl) rfl rfl rfl rfl (by kernel_rfl) ?_
  refine pl_w1 8 (by kernel_rfl) rfl rfl (pl_fire rfl rfl rfl (by kernel_rfl) ?_)
  refine oj_callP Try.call104 rfl (fun w1 hp => k_need _ _ w1) rfl (fun hpF => ?_) (fun hpT => ?_)
  · repeat (first | with_reducible refine ej_then_pan ?_ | with_reducible refine ej_blk_pan ?_ | with_reducible refine ej_noGoto_pan ?_ | with_reducible refine ej_np_pan ?_)
    have hE : stepE s.s st c = 44 := by rw [stepE, if_pos hk, if_pos (not_f hpF)]
    exact ej_pan rfl (fun w2 hp => .inr ⟨(), by rw [hE]; decide, by rw [hE], hp.givT [logB1 b s m st, mp ekI evB m (sealL st.seals)]⟩)
  have h12 : ¬ st.there.getD c.bag.toNat false = true := by rw [not_t hpT]; simp
  have hto := hc.to1 (.inl hk)
  have hsu := hc.suits hk
  refine oj_nil ?_
  refine ej_pl (lt_w (by kernel_rfl) (lt_y (y_load1 Try.isAgg4 rfl (log_there hl hbg)) rfl (lt_y (y_ixArr Try.underlying93 Try.sizeOf4 rfl rfl (by omega)) rfl (lt_y (y_fa fa95_2 rfl) rfl (lt_y (y_nil rfl) rfl (lt_y (y_load1 Try.isAgg3 rfl rfl) rfl (lt_y (y_fa fa52_2 rfl) rfl (lt_y (y_move rfl) rfl (lt_nil))))))))) ?_
  refine pl_end (by kernel_rfl) ?_
  refine ej_th (cj_seq (cj_region ?_))
  refine oj_step (y_move rfl) rfl rfl rfl ?_
  refine oj_step (y_loadN Try.isAgg52 Try.sizeOf52 rfl) rfl rfl rfl ?_
  refine oj_step (y_fa fa52_3 rfl) rfl rfl rfl ?_
  refine oj_step (y_load1 Try.isAgg3 rfl rfl) rfl rfl rfl ?_
  refine oj_callP Try.call105 rfl (fun w1 hp => k_reaches s st c c.to_ b m w1 (str_rd hp (.head _)) hb hc hp.own1 (by omega)) rfl (fun hpF => ?_) (fun hpT => ?_)
  · repeat (first | with_reducible refine ej_then_pan ?_ | with_reducible refine ej_blk_pan ?_ | with_reducible refine ej_noGoto_pan ?_ | with_reducible refine ej_np_pan ?_)
    have hE : stepE s.s st c = 45 := by rw [stepE, if_pos hk, if_neg h12, if_neg (by rw [hpF]; simp)]
    exact ej_pan rfl (fun w2 hp => .inr ⟨(), by rw [hE]; decide, by rw [hE], hp.givT [logB1 b s m st, mp ekI evB m (sealL st.seals)]⟩)
  have h17 := hpT
  refine oj_nil ?_
  refine ej_th (cj_seq (cj_region ?_))
  refine oj_step (y_move rfl) rfl rfl rfl ?_
  refine oj_step (y_loadN Try.isAgg52 Try.sizeOf52 rfl) rfl rfl rfl ?_
  refine oj_step (y_fa fa52_7 rfl) rfl rfl rfl ?_
  refine oj_step (y_load1 Try.isAgg3 rfl rfl) rfl rfl rfl ?_
  refine oj_callP Try.call106 rfl (fun w1 hp => k_put s st c c.suits b m w1 (str_rd hp (.head _)) hb hp.own1 hl (by omega) (by omega)) rfl (fun hpF => ?_) (fun hpT => ?_)
  · repeat (first | with_reducible refine ej_then_pan ?_ | with_reducible refine ej_blk_pan ?_ | with_reducible refine ej_noGoto_pan ?_ | with_reducible refine ej_np_pan ?_)
    have hE : stepE s.s st c = putE s.s st c c.suits := by rw [stepE, if_pos hk, if_neg h12, if_pos h17, if_neg (of_decide_eq_false hpF)]
    exact ej_pan rfl (fun w2 hp => .inr ⟨(), by rw [hE]; exact of_decide_eq_false hpF, by rw [hE], hp.givT [logB1 b s m st, mp ekI evB m (sealL st.seals)]⟩)
  have h22 := of_decide_eq_true hpT
  refine oj_nil ?_
  refine ej_th (cj_seq (cj_region ?_))
  refine oj_step (y_move rfl) rfl rfl rfl ?_
  refine oj_step (y_fa fa52_6 rfl) rfl rfl rfl ?_
  refine oj_step (y_load1 Try.isAgg3 rfl rfl) rfl rfl rfl ?_
  refine oj_callLP (X := Unit) (Y := Unit) (fun _ => .tuple #[]) (fun _ => chP (sealE st c.mark)) (fun _ => sealE st c.mark = 0) (fun _ => sealE st c.mark ≠ 0) (lgF b m s st) (fun _ => (lgF b m s (addS st c.mark))) (fun _ => (lgF b m s st)) Try.call107 rfl rfl (fun w1 hp => by
    obtain ⟨q1, q2, q3⟩ := hp.ownL (Os := (lgF b m s st)) inferInstance
    exact k_seal s st c.mark b m w1 hl q1 q2) rfl (fun _ hsF => ?_) (fun _ hsT => ?_)
  · dsimp only [lgF, List.cons_append, List.nil_append]
    repeat (first | with_reducible refine ej_then_pan ?_ | with_reducible refine ej_blk_pan ?_ | with_reducible refine ej_noGoto_pan ?_ | with_reducible refine ej_np_pan ?_)
    have hE : stepE s.s st c = sealE st c.mark := by rw [stepE, if_pos hk, if_neg h12, if_pos h17, if_pos h22]; rfl
    exact ej_pan rfl (fun w2 hp => .inr ⟨(), by rw [hE]; exact hsF, by rw [hE], hp.givT [logB1 b s m st, mp ekI evB m (sealL st.seals)]⟩)
  dsimp only [lgF, List.cons_append, List.nil_append]
  refine oj_nil ?_
  refine ej_th (cj_seq ?_)
  refine cj_plan 7 (by kernel_rfl) (by kernel_rfl) ?_
  refine pl_y 0 rfl (y_move rfl) rfl rfl rfl rfl (by kernel_rfl) ?_
  refine pl_y 1 rfl (y_fa fa52_2 rfl) rfl rfl rfl rfl (by kernel_rfl) ?_
  refine pl_y 2 rfl (y_load1 Try.isAgg3 rfl rfl) rfl rfl rfl rfl (by kernel_rfl) ?_
  refine pl_y 3 rfl (y_nil rfl) rfl rfl rfl rfl (by kernel_rfl) ?_
  refine pl_y 4 rfl (y_fa fa95_2 rfl) rfl rfl rfl rfl (by kernel_rfl) ?_
  refine pl_y 5 rfl (y_ixArr Try.underlying93 Try.sizeOf4 rfl rfl (by omega)) rfl rfl rfl rfl (by kernel_rfl) ?_
  refine pl_w1 6 (by kernel_rfl) rfl rfl (pl_fire rfl rfl rfl (by kernel_rfl) ?_)
  refine oj_store (vs := [.bool true]) (n := 1) (hset := set_there (st := addS st c.mark) (hl.addS _) hbg) rfl rfl rfl rfl Try.sizeOf4 rfl ?_
  refine oj_nil ?_
  refine ej_pl (lt_w (by kernel_rfl) (lt_y (y_fa fa95_2 rfl) rfl (lt_y (y_nil rfl) rfl (lt_w (by kernel_rfl) (lt_w (by kernel_rfl) (lt_w (by kernel_rfl) (lt_nil))))))) ?_
  refine pl_end (by kernel_rfl) ?_
  refine ej_th ?_
  refine cj_plan 14 (by kernel_rfl) (by kernel_rfl) ?_
  refine pl_y 0 rfl (y_move rfl) rfl rfl rfl rfl (by kernel_rfl) ?_
  refine pl_y 1 rfl (y_fa fa52_2 rfl) rfl rfl rfl rfl (by kernel_rfl) ?_
  refine pl_y 2 rfl (y_load1 Try.isAgg3 rfl rfl) rfl rfl rfl rfl (by kernel_rfl) ?_
  refine pl_y 3 rfl (y_fa fa52_3 rfl) rfl rfl rfl rfl (by kernel_rfl) ?_
  refine pl_y 4 rfl (y_load1 Try.isAgg3 rfl rfl) rfl rfl rfl rfl (by kernel_rfl) ?_
  refine pl_y 5 rfl (y_fa fa52_6 rfl) rfl rfl rfl rfl (by kernel_rfl) ?_
  refine pl_y 6 rfl (y_load1 Try.isAgg3 rfl rfl) rfl rfl rfl rfl (by kernel_rfl) ?_
  refine pl_y 7 rfl (y_fa fa52_7 rfl) rfl rfl rfl rfl (by kernel_rfl) ?_
  refine pl_y 8 rfl (y_load1 Try.isAgg3 rfl rfl) rfl rfl rfl rfl (by kernel_rfl) ?_
  refine pl_y 9 rfl (y_build (cs := [.int .i64 c.to_, .int .i64 c.mark, .int .i64 c.suits, .int .i64 0, .int .i64 0]) st47 rfl (by kernel_rfl)) rfl rfl rfl rfl (by kernel_rfl) ?_
  refine pl_y 10 rfl (y_nil rfl) rfl rfl rfl rfl (by kernel_rfl) ?_
  refine pl_y 11 rfl (y_fa fa95_1 rfl) rfl rfl rfl rfl (by kernel_rfl) ?_
  refine pl_y 12 rfl (y_ixArr Try.underlying48 Try.sizeOf47 rfl rfl (by omega)) rfl rfl rfl rfl (by kernel_rfl) ?_
  refine pl_w1 13 (by kernel_rfl) rfl rfl (pl_fire rfl rfl rfl (by kernel_rfl) ?_)
  refine oj_store (vs := encBa ⟨c.to_, c.mark, c.suits, 0, 0⟩) (n := 5) (hset := set_bag (st := setT (addS st c.mark) c.bag) (u := ⟨c.to_, c.mark, c.suits, 0, 0⟩) ((hl.addS _).setT _) hbg [] [] (encBa (bagAt (setT (addS st c.mark) c.bag) c.bag)) (encBa ⟨c.to_, c.mark, c.suits, 0, 0⟩) rfl rfl rfl rfl) rfl rfl rfl rfl Try.sizeOf47 rfl ?_
  refine oj_nil ?_
  refine ej_pl (lt_w (by kernel_rfl) (lt_y (y_fa fa95_1 rfl) rfl (lt_y (y_nil rfl) rfl (lt_w (by kernel_rfl) (lt_w (by kernel_rfl) (lt_w (by kernel_rfl) (lt_w (by kernel_rfl) (lt_w (by kernel_rfl) (lt_w (by kernel_rfl) (lt_w (by kernel_rfl) (lt_w (by kernel_rfl) (lt_w (by kernel_rfl) (lt_w (by kernel_rfl) (lt_nil)))))))))))))) ?_
  refine pl_end (by kernel_rfl) ?_
  have hE : stepE s.s st c = 0 := by rw [stepE, if_pos hk, if_neg h12, if_pos h17, if_pos h22]; exact hsT
  exact ej_end0 rfl Try.results95 (fun w' hp => .inl ⟨(), hE, rfl, by
    have h9 := hp.givT [logB1 b s m (setB (setT (addS st c.mark) c.bag) c.bag ⟨c.to_, c.mark, c.suits, 0, 0⟩), mp ekI evB m (sealL ((addS st c.mark).seals))]
    rw [stepM, if_pos hk]
    exact h9⟩)

set_option maxHeartbeats 1000000 in
theorem k_move (s : StrV) (st : LogV) (c : CarryV) (b m : Nat) (fp : Nat → Prop) (w : World) (hb : strB s.s = true) (hc : COk s.s c) (hI : Inv s.s st) (hk : c.kind = 2) (hO : ∀ f ∈ (lgF b m s st), f.P w ∧ ∀ b, f.fp b → b < w.heap.size) (hap : (lgF b m s st).Pairwise (fun f g => ∀ b, f.fp b → ¬ g.fp b)) (hS : ∀ g ∈ [strF fp s], g.P w ∧ ∀ i, g.fp i → i < w.heap.size ∧ ∀ f ∈ (lgF b m s st), ¬ f.fp i) : Calls Try.prog 96 #[.pointer (some ⟨b, 0, none⟩), .agg #[.int .i64 c.day, .int .i64 c.kind, .int .i64 c.bag, .int .i64 c.to_, .int .i64 c.by_, .int .i64 c.with_, .int .i64 c.mark, .int .i64 c.suits]] w (fun e w' => (∃ _ : Unit, stepE s.s st c = 0 ∧ e = .returned (.tuple #[]) ∧ Giv (lgF b m s st) w w' (lgF b m s (stepM st c))) ∨ (∃ _ : Unit, stepE s.s st c ≠ 0 ∧ e = .panicked (chP (stepE s.s st c)) ∧ Giv (lgF b m s st) w w' (lgF b m s st))) := by
  have hl := inv_lens hI
  have hbg := hc.bag
  have hsr : s.s.rooms.length = s.rooms.length := rfl
  have hrl := (StrOk.of hb).nr
  have hbn := hI.nums _ _ (bagAt_at hl hbg)
  have hk1 : c.kind ≠ 1 := by omega
  refine enterO (args := [.pointer (some ⟨b, 0, none⟩), .agg #[.int .i64 c.day, .int .i64 c.kind, .int .i64 c.bag, .int .i64 c.to_, .int .i64 c.by_, .int .i64 c.with_, .int .i64 c.mark, .int .i64 c.suits]]) (lgF b m s st) [strF fp s] Try.func96 rfl (by rw [Try.ntmps96]; simp) hO hap hS ?_
  refine cj_seq (cj_region ?_)
  refine oj_box rfl rfl rfl (fun b3 => ?_)
  refine oj_nil ?_
  refine ej_th (cj_seq (cj_region ?_))
  refine oj_step (y_move rfl) rfl rfl rfl ?_
  refine oj_step (y_loadN Try.isAgg52 Try.sizeOf52 rfl) rfl rfl rfl ?_
  refine oj_callP Try.call108 rfl (fun w1 hp => k_lies s st c b m w1 (str_rd hp (.head _)) hb hc hp.own1 hI) rfl (fun hpF => ?_) (fun hpT => ?_)
  · repeat (first | with_reducible refine ej_then_pan ?_ | with_reducible refine ej_blk_pan ?_ | with_reducible refine ej_noGoto_pan ?_ | with_reducible refine ej_np_pan ?_)
    have hE : stepE s.s st c = lieE s.s st c := by exact step_lie hk1 (of_decide_eq_false hpF)
    exact ej_pan rfl (fun w2 hp => .inr ⟨(), by rw [hE]; exact of_decide_eq_false hpF, by rw [hE], hp.givT [logB1 b s m st, mp ekI evB m (sealL st.seals)]⟩)
  have h0 := of_decide_eq_true hpT
  have hst := step_lie0 hk1 h0
  rw [if_pos hk] at hst
  have hto := hc.to1 (.inr hk)
  refine oj_step (y_assign rfl) rfl rfl rfl ?_
  refine oj_nil ?_
  refine ej_th (cj_seq (cj_region ?_))
  refine oj_step (y_move rfl) rfl rfl rfl ?_
  refine oj_step (y_loadN Try.isAgg52 Try.sizeOf52 rfl) rfl rfl rfl ?_
  refine oj_step (y_fa fa52_3 rfl) rfl rfl rfl ?_
  refine oj_step (y_load1 Try.isAgg3 rfl rfl) rfl rfl rfl ?_
  refine oj_callP Try.call105 rfl (fun w1 hp => k_reaches s st c c.to_ b m w1 (str_rd hp (.head _)) hb hc hp.own1 (by omega)) rfl (fun hpF => ?_) (fun hpT => ?_)
  · repeat (first | with_reducible refine ej_then_pan ?_ | with_reducible refine ej_blk_pan ?_ | with_reducible refine ej_noGoto_pan ?_ | with_reducible refine ej_np_pan ?_)
    have hE : stepE s.s st c = 45 := by rw [hst, if_neg (by rw [hpF]; simp)]
    exact ej_pan rfl (fun w2 hp => .inr ⟨(), by rw [hE]; decide, by rw [hE], hp.givT [logB1 b s m st, mp ekI evB m (sealL st.seals)]⟩)
  have h12 := hpT
  refine oj_nil ?_
  refine ej_th (cj_seq ?_)
  refine cj_plan 8 (by kernel_rfl) (by kernel_rfl) ?_
  refine pl_y 0 rfl (y_move rfl) rfl rfl rfl rfl (by kernel_rfl) ?_
  refine pl_y 1 rfl (y_nil rfl) rfl rfl rfl rfl (by kernel_rfl) ?_
  refine pl_y 2 rfl (y_fa0 fa47_0 rfl) rfl rfl rfl rfl (by kernel_rfl) ?_
  refine pl_y 3 rfl (y_load1 Try.isAgg3 rfl (log_room hl hbg)) rfl rfl rfl rfl (by kernel_rfl) ?_
  refine pl_y 4 rfl (y_fa fa52_3 rfl) rfl rfl rfl rfl (by kernel_rfl) ?_
  refine pl_y 5 rfl (y_load1 Try.isAgg3 rfl rfl) rfl rfl rfl rfl (by kernel_rfl) ?_
  refine pl_y 6 rfl (y_neq rfl rfl) rfl rfl rfl rfl (by kernel_rfl) ?_
  refine pl_w1 7 (by kernel_rfl) rfl rfl (pl_fire rfl rfl rfl (by kernel_rfl) ?_)
  refine oj_callP Try.call104 rfl (fun w1 hp => k_need _ _ w1) rfl (fun hpF => ?_) (fun hpT => ?_)
  · repeat (first | with_reducible refine ej_then_pan ?_ | with_reducible refine ej_blk_pan ?_ | with_reducible refine ej_noGoto_pan ?_ | with_reducible refine ej_np_pan ?_)
    have hE : stepE s.s st c = 46 := by rw [hst, if_pos h12, if_pos (by simpa using hpF)]
    exact ej_pan rfl (fun w2 hp => .inr ⟨(), by rw [hE]; decide, by rw [hE], hp.givT [logB1 b s m st, mp ekI evB m (sealL st.seals)]⟩)
  have h20 : ¬ (bagAt st c.bag).room = c.to_ := by simpa using hpT
  refine oj_nil ?_
  refine ej_pl (lt_w (by kernel_rfl) (lt_y (y_load1 Try.isAgg3 rfl rfl) rfl (lt_y (y_fa fa52_3 rfl) rfl (lt_y (y_load1 Try.isAgg3 rfl (log_room hl hbg)) rfl (lt_y (y_fa0 fa47_0 rfl) rfl (lt_y (y_nil rfl) rfl (lt_y (y_move rfl) rfl (lt_nil)))))))) ?_
  refine pl_end (by kernel_rfl) ?_
  refine ej_th (cj_seq ?_)
  refine cj_plan 7 (by kernel_rfl) (by kernel_rfl) ?_
  refine pl_y 0 rfl (y_move rfl) rfl rfl rfl rfl (by kernel_rfl) ?_
  refine pl_y 1 rfl (y_loadN Try.isAgg52 Try.sizeOf52 rfl) rfl rfl rfl rfl (by kernel_rfl) ?_
  refine pl_y 2 rfl (y_move rfl) rfl rfl rfl rfl (by kernel_rfl) ?_
  refine pl_y 3 rfl (y_nil rfl) rfl rfl rfl rfl (by kernel_rfl) ?_
  refine pl_y 4 rfl (y_fa fa47_2 rfl) rfl rfl rfl rfl (by kernel_rfl) ?_
  refine pl_y 5 rfl (y_load1 Try.isAgg3 rfl (log_suits hl hbg)) rfl rfl rfl rfl (by kernel_rfl) ?_
  refine pl_w1 6 (by kernel_rfl) rfl rfl (pl_fire rfl rfl rfl (by kernel_rfl) ?_)
  refine oj_callP Try.call106 rfl (fun w1 hp => k_put s st c (bagAt st c.bag).suits b m w1 (str_rd hp (.head _)) hb hp.own1 hl (by omega) (by omega)) rfl (fun hpF => ?_) (fun hpT => ?_)
  · repeat (first | with_reducible refine ej_then_pan ?_ | with_reducible refine ej_blk_pan ?_ | with_reducible refine ej_noGoto_pan ?_ | with_reducible refine ej_np_pan ?_)
    have hE : stepE s.s st c = putE s.s st c (bagAt st c.bag).suits := by rw [hst, if_pos h12, if_neg h20]
    exact ej_pan rfl (fun w2 hp => .inr ⟨(), by rw [hE]; exact of_decide_eq_false hpF, by rw [hE], hp.givT [logB1 b s m st, mp ekI evB m (sealL st.seals)]⟩)
  have h27 := of_decide_eq_true hpT
  refine oj_nil ?_
  refine ej_pl (lt_w (by kernel_rfl) (lt_y (y_fa fa47_2 rfl) rfl (lt_y (y_nil rfl) rfl (lt_y (y_move rfl) rfl (lt_w (by kernel_rfl) (lt_w (by kernel_rfl) (lt_nil))))))) ?_
  refine pl_end (by kernel_rfl) ?_
  refine ej_th (cj_region ?_)
  refine oj_step (y_move rfl) rfl rfl rfl ?_
  refine oj_step (y_fa fa52_3 rfl) rfl rfl rfl ?_
  refine oj_step (y_load1 Try.isAgg3 rfl rfl) rfl rfl rfl ?_
  refine oj_step (y_nil rfl) rfl rfl rfl ?_
  refine oj_step (y_fa0 fa47_0 rfl) rfl rfl rfl ?_
  refine oj_store (vs := [.int .i64 c.to_]) (n := 1) (hset := set_bag (st := st) (u := withRoom (bagAt st c.bag) c.to_) hl hbg [] [.int .i64 (bagAt st c.bag).mark, .int .i64 (bagAt st c.bag).suits, .int .i64 (bagAt st c.bag).by_, .int .i64 (bagAt st c.bag).with_] [.int .i64 (bagAt st c.bag).room] [.int .i64 c.to_] rfl rfl rfl rfl) rfl rfl rfl rfl Try.sizeOf3 rfl ?_
  refine oj_nil ?_
  have hE : stepE s.s st c = 0 := by rw [hst, if_pos h12, if_neg h20]; exact h27
  exact ej_end0 rfl Try.results96 (fun w' hp => .inl ⟨(), hE, rfl, by
    have h9 := hp.givT [logB1 b s m (setB st c.bag (withRoom (bagAt st c.bag) c.to_)), mp ekI evB m (sealL (st.seals))]
    rw [stepM, if_neg hk1, if_pos hk]
    exact h9⟩)

set_option maxHeartbeats 1000000 in
theorem k_check (s : StrV) (st : LogV) (c : CarryV) (b m : Nat) (fp : Nat → Prop) (w : World) (hb : strB s.s = true) (hc : COk s.s c) (hI : Inv s.s st) (hk : c.kind = 3) (hO : ∀ f ∈ (lgF b m s st), f.P w ∧ ∀ b, f.fp b → b < w.heap.size) (hap : (lgF b m s st).Pairwise (fun f g => ∀ b, f.fp b → ¬ g.fp b)) (hS : ∀ g ∈ [strF fp s], g.P w ∧ ∀ i, g.fp i → i < w.heap.size ∧ ∀ f ∈ (lgF b m s st), ¬ f.fp i) : Calls Try.prog 97 #[.pointer (some ⟨b, 0, none⟩), .agg #[.int .i64 c.day, .int .i64 c.kind, .int .i64 c.bag, .int .i64 c.to_, .int .i64 c.by_, .int .i64 c.with_, .int .i64 c.mark, .int .i64 c.suits]] w (fun e w' => (∃ _ : Unit, stepE s.s st c = 0 ∧ e = .returned (.tuple #[]) ∧ Giv (lgF b m s st) w w' (lgF b m s (stepM st c))) ∨ (∃ _ : Unit, stepE s.s st c ≠ 0 ∧ e = .panicked (chP (stepE s.s st c)) ∧ Giv (lgF b m s st) w w' (lgF b m s st))) := by
  have hl := inv_lens hI
  have hbg := hc.bag
  have hsr : s.s.rooms.length = s.rooms.length := rfl
  have hrl := (StrOk.of hb).nr
  have hbn := hI.nums _ _ (bagAt_at hl hbg)
  have hk1 : c.kind ≠ 1 := by omega
  refine enterO (args := [.pointer (some ⟨b, 0, none⟩), .agg #[.int .i64 c.day, .int .i64 c.kind, .int .i64 c.bag, .int .i64 c.to_, .int .i64 c.by_, .int .i64 c.with_, .int .i64 c.mark, .int .i64 c.suits]]) (lgF b m s st) [strF fp s] Try.func97 rfl (by rw [Try.ntmps97]; simp) hO hap hS ?_
  refine cj_seq (cj_region ?_)
  refine oj_box rfl rfl rfl (fun b3 => ?_)
  refine oj_nil ?_
  refine ej_th ?_
  refine cj_plan 10 (by kernel_rfl) (by kernel_rfl) ?_
  refine pl_y 0 rfl (y_move rfl) rfl rfl rfl rfl (by kernel_rfl) ?_
  refine pl_y 1 rfl (y_loadN Try.isAgg52 Try.sizeOf52 rfl) rfl rfl rfl rfl (by kernel_rfl) ?_
  refine pl_y 6 rfl (y_fa fa52_6 rfl) rfl rfl rfl rfl (by kernel_rfl) ?_
  refine pl_y 7 rfl (y_load1 Try.isAgg3 rfl rfl) rfl rfl rfl rfl (by kernel_rfl) ?_
  refine pl_w1 2 (by kernel_rfl) rfl rfl (pl_fire rfl rfl rfl (by kernel_rfl) ?_)
  refine oj_callP Try.call108 rfl (fun w1 hp => k_lies s st c b m w1 (str_rd hp (.head _)) hb hc hp.own1 hI) rfl (fun hpF => ?_) (fun hpT => ?_)
  · repeat (first | with_reducible refine ej_then_pan ?_ | with_reducible refine ej_blk_pan ?_ | with_reducible refine ej_noGoto_pan ?_ | with_reducible refine ej_np_pan ?_)
    have hE : stepE s.s st c = lieE s.s st c := by exact step_lie hk1 (of_decide_eq_false hpF)
    exact ej_pan rfl (fun w2 hp => .inr ⟨(), by rw [hE]; exact of_decide_eq_false hpF, by rw [hE], hp.givT [logB1 b s m st, mp ekI evB m (sealL st.seals)]⟩)
  have h0 := of_decide_eq_true hpT
  have hst := step_lie0 hk1 h0
  rw [if_neg (by omega), if_pos hk] at hst
  refine oj_nil ?_
  refine ej_pl (lt_y (y_load1 Try.isAgg3 rfl rfl) rfl (lt_y (y_fa fa52_6 rfl) rfl (lt_w (by kernel_rfl) (lt_w (by kernel_rfl) (lt_nil))))) ?_
  refine pl_y 3 rfl (y_nil rfl) rfl rfl rfl rfl (by kernel_rfl) ?_
  refine pl_y 4 rfl (y_fa fa47_1 rfl) rfl rfl rfl rfl (by kernel_rfl) ?_
  refine pl_y 5 rfl (y_load1 Try.isAgg3 rfl (log_mark hl hbg)) rfl rfl rfl rfl (by kernel_rfl) ?_
  refine pl_y 8 rfl (y_eql rfl rfl) rfl rfl rfl rfl (by kernel_rfl) ?_
  refine pl_w1 9 (by kernel_rfl) rfl rfl (pl_fire rfl rfl rfl (by kernel_rfl) ?_)
  refine oj_callP Try.call104 rfl (fun w1 hp => k_need _ _ w1) rfl (fun hpF => ?_) (fun hpT => ?_)
  · repeat (first | with_reducible refine ej_then_pan ?_ | with_reducible refine ej_blk_pan ?_ | with_reducible refine ej_noGoto_pan ?_ | with_reducible refine ej_np_pan ?_)
    have hE : stepE s.s st c = 48 := by rw [hst, if_neg (by simpa using hpF)]
    exact ej_pan rfl (fun w2 hp => .inr ⟨(), by rw [hE]; decide, by rw [hE], hp.givT [logB1 b s m st, mp ekI evB m (sealL st.seals)]⟩)
  have h13 : (bagAt st c.bag).mark = c.mark := by simpa using hpT
  refine oj_nil ?_
  refine ej_pl (lt_w (by kernel_rfl) (lt_y (y_load1 Try.isAgg3 rfl (log_mark hl hbg)) rfl (lt_y (y_fa fa47_1 rfl) rfl (lt_y (y_nil rfl) rfl (lt_y (y_load1 Try.isAgg3 rfl rfl) rfl (lt_y (y_fa fa52_6 rfl) rfl (lt_y (y_loadN Try.isAgg52 Try.sizeOf52 rfl) rfl (lt_y (y_move rfl) rfl (lt_nil))))))))) ?_
  refine pl_end (by kernel_rfl) ?_
  have hE : stepE s.s st c = 0 := by rw [hst, if_pos h13]
  exact ej_end0 rfl Try.results97 (fun w' hp => .inl ⟨(), hE, rfl, by
    have h9 := hp.givT [logB1 b s m (st), mp ekI evB m (sealL (st.seals))]
    rw [stepM, if_neg hk1, if_neg (by omega), if_pos hk]
    exact h9⟩)

set_option maxHeartbeats 1000000 in
theorem k_open (s : StrV) (st : LogV) (c : CarryV) (b m : Nat) (fp : Nat → Prop) (w : World) (hb : strB s.s = true) (hc : COk s.s c) (hI : Inv s.s st) (hk : c.kind = 4) (hO : ∀ f ∈ (lgF b m s st), f.P w ∧ ∀ b, f.fp b → b < w.heap.size) (hap : (lgF b m s st).Pairwise (fun f g => ∀ b, f.fp b → ¬ g.fp b)) (hS : ∀ g ∈ [strF fp s], g.P w ∧ ∀ i, g.fp i → i < w.heap.size ∧ ∀ f ∈ (lgF b m s st), ¬ f.fp i) : Calls Try.prog 98 #[.pointer (some ⟨b, 0, none⟩), .agg #[.int .i64 c.day, .int .i64 c.kind, .int .i64 c.bag, .int .i64 c.to_, .int .i64 c.by_, .int .i64 c.with_, .int .i64 c.mark, .int .i64 c.suits]] w (fun e w' => (∃ _ : Unit, stepE s.s st c = 0 ∧ e = .returned (.tuple #[]) ∧ Giv (lgF b m s st) w w' (lgF b m s (stepM st c))) ∨ (∃ _ : Unit, stepE s.s st c ≠ 0 ∧ e = .panicked (chP (stepE s.s st c)) ∧ Giv (lgF b m s st) w w' (lgF b m s st))) := by
  have hl := inv_lens hI
  have hbg := hc.bag
  have hsr : s.s.rooms.length = s.rooms.length := rfl
  have hrl := (StrOk.of hb).nr
  have hbn := hI.nums _ _ (bagAt_at hl hbg)
  have hk1 : c.kind ≠ 1 := by omega
  refine enterO (args := [.pointer (some ⟨b, 0, none⟩), .agg #[.int .i64 c.day, .int .i64 c.kind, .int .i64 c.bag, .int .i64 c.to_, .int .i64 c.by_, .int .i64 c.with_, .int .i64 c.mark, .int .i64 c.suits]]) (lgF b m s st) [strF fp s] Try.func98 rfl (by rw [Try.ntmps98]; simp) hO hap hS ?_
  refine cj_seq (cj_region ?_)
  refine oj_box rfl rfl rfl (fun b3 => ?_)
  refine oj_nil ?_
  refine ej_th (cj_seq (cj_region ?_))
  refine oj_step (y_move rfl) rfl rfl rfl ?_
  refine oj_step (y_loadN Try.isAgg52 Try.sizeOf52 rfl) rfl rfl rfl ?_
  refine oj_callP Try.call108 rfl (fun w1 hp => k_lies s st c b m w1 (str_rd hp (.head _)) hb hc hp.own1 hI) rfl (fun hpF => ?_) (fun hpT => ?_)
  · repeat (first | with_reducible refine ej_then_pan ?_ | with_reducible refine ej_blk_pan ?_ | with_reducible refine ej_noGoto_pan ?_ | with_reducible refine ej_np_pan ?_)
    have hE : stepE s.s st c = lieE s.s st c := by exact step_lie hk1 (of_decide_eq_false hpF)
    exact ej_pan rfl (fun w2 hp => .inr ⟨(), by rw [hE]; exact of_decide_eq_false hpF, by rw [hE], hp.givT [logB1 b s m st, mp ekI evB m (sealL st.seals)]⟩)
  have h0 := of_decide_eq_true hpT
  have hst := step_lie0 hk1 h0
  rw [if_neg (by omega), if_neg (by omega), if_pos hk] at hst
  refine oj_step (y_assign rfl) rfl rfl rfl ?_
  refine oj_nil ?_
  refine ej_th (cj_seq (cj_region ?_))
  refine oj_step (y_move rfl) rfl rfl rfl ?_
  refine oj_step (y_fa fa52_6 rfl) rfl rfl rfl ?_
  refine oj_step (y_load1 Try.isAgg3 rfl rfl) rfl rfl rfl ?_
  refine oj_callLP (X := Unit) (Y := Unit) (fun _ => .tuple #[]) (fun _ => chP (sealE st c.mark)) (fun _ => sealE st c.mark = 0) (fun _ => sealE st c.mark ≠ 0) (lgF b m s st) (fun _ => (lgF b m s (addS st c.mark))) (fun _ => (lgF b m s st)) Try.call107 rfl rfl (fun w1 hp => by
    obtain ⟨q1, q2, q3⟩ := hp.ownL (Os := (lgF b m s st)) inferInstance
    exact k_seal s st c.mark b m w1 hl q1 q2) rfl (fun _ hsF => ?_) (fun _ hsT => ?_)
  · dsimp only [lgF, List.cons_append, List.nil_append]
    repeat (first | with_reducible refine ej_then_pan ?_ | with_reducible refine ej_blk_pan ?_ | with_reducible refine ej_noGoto_pan ?_ | with_reducible refine ej_np_pan ?_)
    have hE : stepE s.s st c = sealE st c.mark := by rw [hst]; rfl
    exact ej_pan rfl (fun w2 hp => .inr ⟨(), by rw [hE]; exact hsF, by rw [hE], hp.givT [logB1 b s m st, mp ekI evB m (sealL st.seals)]⟩)
  dsimp only [lgF, List.cons_append, List.nil_append]
  refine oj_nil ?_
  refine ej_th (cj_region ?_)
  refine oj_step (y_move rfl) rfl rfl rfl ?_
  refine oj_step (y_fa fa52_6 rfl) rfl rfl rfl ?_
  refine oj_step (y_load1 Try.isAgg3 rfl rfl) rfl rfl rfl ?_
  refine oj_step (y_nil rfl) rfl rfl rfl ?_
  refine oj_step (y_fa fa47_1 rfl) rfl rfl rfl ?_
  refine oj_store (vs := [.int .i64 c.mark]) (n := 1) (hset := set_bag (st := addS st c.mark) (u := withMark (bagAt st c.bag) c.mark) (hl.addS _) hbg [.int .i64 (bagAt st c.bag).room] [.int .i64 (bagAt st c.bag).suits, .int .i64 (bagAt st c.bag).by_, .int .i64 (bagAt st c.bag).with_] [.int .i64 (bagAt st c.bag).mark] [.int .i64 c.mark] rfl rfl rfl rfl) rfl rfl rfl rfl Try.sizeOf3 rfl ?_
  refine oj_nil ?_
  have hE : stepE s.s st c = 0 := by rw [hst]; exact hsT
  exact ej_end0 rfl Try.results98 (fun w' hp => .inl ⟨(), hE, rfl, by
    have h9 := hp.givT [logB1 b s m (setB (addS st c.mark) c.bag (withMark (bagAt st c.bag) c.mark)), mp ekI evB m (sealL ((addS st c.mark).seals))]
    rw [stepM, if_neg hk1, if_neg (by omega), if_neg (by omega), if_pos hk]
    exact h9⟩)

set_option maxHeartbeats 1000000 in
theorem k_out (s : StrV) (st : LogV) (c : CarryV) (b m : Nat) (fp : Nat → Prop) (w : World) (hb : strB s.s = true) (hc : COk s.s c) (hI : Inv s.s st) (hk : c.kind = 5) (hO : ∀ f ∈ (lgF b m s st), f.P w ∧ ∀ b, f.fp b → b < w.heap.size) (hap : (lgF b m s st).Pairwise (fun f g => ∀ b, f.fp b → ¬ g.fp b)) (hS : ∀ g ∈ [strF fp s], g.P w ∧ ∀ i, g.fp i → i < w.heap.size ∧ ∀ f ∈ (lgF b m s st), ¬ f.fp i) : Calls Try.prog 99 #[.pointer (some ⟨b, 0, none⟩), .agg #[.int .i64 c.day, .int .i64 c.kind, .int .i64 c.bag, .int .i64 c.to_, .int .i64 c.by_, .int .i64 c.with_, .int .i64 c.mark, .int .i64 c.suits]] w (fun e w' => (∃ _ : Unit, stepE s.s st c = 0 ∧ e = .returned (.tuple #[]) ∧ Giv (lgF b m s st) w w' (lgF b m s (stepM st c))) ∨ (∃ _ : Unit, stepE s.s st c ≠ 0 ∧ e = .panicked (chP (stepE s.s st c)) ∧ Giv (lgF b m s st) w w' (lgF b m s st))) := by
  have hl := inv_lens hI
  have hbg := hc.bag
  have hsr : s.s.rooms.length = s.rooms.length := rfl
  have hrl := (StrOk.of hb).nr
  have hbn := hI.nums _ _ (bagAt_at hl hbg)
  have hk1 : c.kind ≠ 1 := by omega
  refine enterO (args := [.pointer (some ⟨b, 0, none⟩), .agg #[.int .i64 c.day, .int .i64 c.kind, .int .i64 c.bag, .int .i64 c.to_, .int .i64 c.by_, .int .i64 c.with_, .int .i64 c.mark, .int .i64 c.suits]]) (lgF b m s st) [strF fp s] Try.func99 rfl (by rw [Try.ntmps99]; simp) hO hap hS ?_
  refine cj_seq (cj_region ?_)
  refine oj_box rfl rfl rfl (fun b3 => ?_)
  refine oj_nil ?_
  refine ej_th (cj_seq (cj_region ?_))
  refine oj_step (y_move rfl) rfl rfl rfl ?_
  refine oj_step (y_loadN Try.isAgg52 Try.sizeOf52 rfl) rfl rfl rfl ?_
  refine oj_callP Try.call108 rfl (fun w1 hp => k_lies s st c b m w1 (str_rd hp (.head _)) hb hc hp.own1 hI) rfl (fun hpF => ?_) (fun hpT => ?_)
  · repeat (first | with_reducible refine ej_then_pan ?_ | with_reducible refine ej_blk_pan ?_ | with_reducible refine ej_noGoto_pan ?_ | with_reducible refine ej_np_pan ?_)
    have hE : stepE s.s st c = lieE s.s st c := by exact step_lie hk1 (of_decide_eq_false hpF)
    exact ej_pan rfl (fun w2 hp => .inr ⟨(), by rw [hE]; exact of_decide_eq_false hpF, by rw [hE], hp.givT [logB1 b s m st, mp ekI evB m (sealL st.seals)]⟩)
  have h0 := of_decide_eq_true hpT
  have hst := step_lie0 hk1 h0
  rw [if_neg (by omega), if_neg (by omega), if_neg (by omega)] at hst
  refine oj_step (y_assign rfl) rfl rfl rfl ?_
  refine oj_nil ?_
  refine ej_th (cj_region ?_)
  refine oj_step (y_move rfl) rfl rfl rfl ?_
  refine oj_step (y_move rfl) rfl rfl rfl ?_
  refine oj_step (y_nil rfl) rfl rfl rfl ?_
  refine oj_step (y_fa0 fa47_0 rfl) rfl rfl rfl ?_
  refine oj_store (vs := [.int .i64 0]) (n := 1) (hset := set_bag (st := st) (u := withRoom (bagAt st c.bag) 0) hl hbg [] [.int .i64 (bagAt st c.bag).mark, .int .i64 (bagAt st c.bag).suits, .int .i64 (bagAt st c.bag).by_, .int .i64 (bagAt st c.bag).with_] [.int .i64 (bagAt st c.bag).room] [.int .i64 0] rfl rfl rfl rfl) rfl rfl rfl rfl Try.sizeOf3 rfl ?_
  refine oj_step (y_nil rfl) rfl rfl rfl ?_
  refine oj_step (y_fa fa47_1 rfl) rfl rfl rfl ?_
  refine oj_store (vs := [.int .i64 0]) (n := 1) (hset := set_bag (st := setB st c.bag (withRoom (bagAt st c.bag) 0)) (u := withMark (withRoom (bagAt st c.bag) 0) 0) (hl.setB _ _) hbg [.int .i64 0] [.int .i64 (bagAt st c.bag).suits, .int .i64 (bagAt st c.bag).by_, .int .i64 (bagAt st c.bag).with_] [.int .i64 (bagAt st c.bag).mark] [.int .i64 0] (by rw [bagAt_setB hl hbg]; rfl) rfl rfl rfl) rfl rfl rfl rfl Try.sizeOf3 rfl ?_
  refine oj_nil ?_
  have hE : stepE s.s st c = 0 := by exact hst
  exact ej_end0 rfl Try.results99 (fun w' hp => .inl ⟨(), hE, rfl, by
    have h9 := hp.givT [logB1 b s m (setB (setB st c.bag (withRoom (bagAt st c.bag) 0)) c.bag (withMark (withRoom (bagAt st c.bag) 0) 0)), mp ekI evB m (sealL (st.seals))]
    rw [stepM, if_neg hk1, if_neg (by omega), if_neg (by omega), if_neg (by omega)]
    exact h9⟩)

end Go.Proofs.Ytomidcehahdmbaa
namespace Go.Proofs.Ytomidcehahdmbaa
open Go.Sx Go.RowKit Vm
set_option maxRecDepth 20000
def evF : Option Nat → Value
  | none => .nilFunc
  | some f => .func (.func f) #[] #[]
abbrev waysL : List (Int × Option Nat) := [(1, some 95), (2, some 96), (3, some 97), (4, some 98), (5, some 99)]
def wayN (k : Int) : Nat := if k = 1 then 95 else if k = 2 then 96 else if k = 3 then 97 else if k = 4 then 98 else 99
theorem way_cases {k : Int} (h : 1 ≤ k ∧ k ≤ 5) : k = 1 ∨ k = 2 ∨ k = 3 ∨ k = 4 ∨ k = 5 := by omega
theorem way_get {k : Int} (h : 1 ≤ k ∧ k ≤ 5) : getL waysL k = some (some (wayN k)) := by rcases way_cases h with rfl | rfl | rfl | rfl | rfl <;> rfl
theorem way_enter {k : Int} (h : 1 ≤ k ∧ k ≤ 5) : ∀ args w, (callFunc (wayN k) args).run Try.prog w = .ok (.enter (wayN k) args) w := by
  rcases way_cases h with rfl | rfl | rfl | rfl | rfl
  · exact Try.call95
  · exact Try.call96
  · exact Try.call97
  · exact Try.call98
  · exact Try.call99
theorem k_step (s : StrV) (st : LogV) (c : CarryV) (b m : Nat) (fp : Nat → Prop) (w : World) (hb : strB s.s = true) (hc : COk s.s c) (hI : Inv s.s st) (hO : ∀ f ∈ (lgF b m s st), f.P w ∧ ∀ b, f.fp b → b < w.heap.size) (hap : (lgF b m s st).Pairwise (fun f g => ∀ b, f.fp b → ¬ g.fp b)) (hS : ∀ g ∈ [strF fp s], g.P w ∧ ∀ i, g.fp i → i < w.heap.size ∧ ∀ f ∈ (lgF b m s st), ¬ f.fp i) : Calls Try.prog (wayN c.kind) #[.pointer (some ⟨b, 0, none⟩), .agg #[.int .i64 c.day, .int .i64 c.kind, .int .i64 c.bag, .int .i64 c.to_, .int .i64 c.by_, .int .i64 c.with_, .int .i64 c.mark, .int .i64 c.suits]] w (fun e w' => (∃ _ : Unit, stepE s.s st c = 0 ∧ e = .returned (.tuple #[]) ∧ Giv (lgF b m s st) w w' (lgF b m s (stepM st c))) ∨ (∃ _ : Unit, stepE s.s st c ≠ 0 ∧ e = .panicked (chP (stepE s.s st c)) ∧ Giv (lgF b m s st) w w' (lgF b m s st))) := by
  rcases way_cases hc.kind with hk | hk | hk | hk | hk
  · rw [show wayN c.kind = 95 by rw [hk]; rfl]; exact k_in s st c b m fp w hb hc hI hk hO hap hS
  · rw [show wayN c.kind = 96 by rw [hk]; rfl]; exact k_move s st c b m fp w hb hc hI hk hO hap hS
  · rw [show wayN c.kind = 97 by rw [hk]; rfl]; exact k_check s st c b m fp w hb hc hI hk hO hap hS
  · rw [show wayN c.kind = 98 by rw [hk]; rfl]; exact k_open s st c b m fp w hb hc hI hk hO hap hS
  · rw [show wayN c.kind = 99 by rw [hk]; rfl]; exact k_out s st c b m fp w hb hc hI hk hO hap hS

theorem k_ways  (w : World)  : Calls Try.prog 85 #[] w (fun e w' => ∃ z : Nat, e = .returned (.map (some z)) ∧ Giv [] w w' [mp ekI evF z waysL]) := by
  refine enterO (args := []) [] [] Try.func85 rfl (by rw [Try.ntmps85]; simp) (fun _ h => by cases h) .nil (fun _ h => by cases h) ?_
  refine cj_seq ?_
  refine cj_regionG (gj_step (y_assign rfl) rfl rfl rfl (gj_nil ?_))
  refine ej_th (cj_seq (cj_region ?_))
  refine oj_makeMap ekI evF rfl (fun m1 => ?_)
  refine oj_insert (oj_mapUpdate (ek := ekI) (ev := evF) (l := []) (kk := 1) (v := some 95) Try.underlying116 Try.underlying3 rfl rfl rfl ?_)
  rw [show putL ([] : List (Int × Option Nat)) 1 (some 95) = [(1, some 95)] from rfl]
  refine oj_insert (oj_mapUpdate (ek := ekI) (ev := evF) (l := [(1, some 95)]) (kk := 2) (v := some 96) Try.underlying116 Try.underlying3 rfl rfl rfl ?_)
  rw [show putL ([(1, some 95)] : List (Int × Option Nat)) 2 (some 96) = [(1, some 95), (2, some 96)] from rfl]
  refine oj_insert (oj_mapUpdate (ek := ekI) (ev := evF) (l := [(1, some 95), (2, some 96)]) (kk := 3) (v := some 97) Try.underlying116 Try.underlying3 rfl rfl rfl ?_)
  rw [show putL ([(1, some 95), (2, some 96)] : List (Int × Option Nat)) 3 (some 97) = [(1, some 95), (2, some 96), (3, some 97)] from rfl]
  refine oj_insert (oj_mapUpdate (ek := ekI) (ev := evF) (l := [(1, some 95), (2, some 96), (3, some 97)]) (kk := 4) (v := some 98) Try.underlying116 Try.underlying3 rfl rfl rfl ?_)
  rw [show putL ([(1, some 95), (2, some 96), (3, some 97)] : List (Int × Option Nat)) 4 (some 98) = [(1, some 95), (2, some 96), (3, some 97), (4, some 98)] from rfl]
  refine oj_insert (oj_mapUpdate (ek := ekI) (ev := evF) (l := [(1, some 95), (2, some 96), (3, some 97), (4, some 98)]) (kk := 5) (v := some 99) Try.underlying116 Try.underlying3 rfl rfl rfl ?_)
  rw [show putL ([(1, some 95), (2, some 96), (3, some 97), (4, some 98)] : List (Int × Option Nat)) 5 (some 99) = [(1, some 95), (2, some 96), (3, some 97), (4, some 98), (5, some 99)] from rfl]
  refine oj_step (y_move rfl) rfl rfl rfl ?_
  refine oj_step (y_assign rfl) rfl rfl rfl ?_
  refine oj_nil ?_
  refine ej_th (cj_ret ?_)
  exact ej_ret1 rfl Try.results85 rfl (fun w' hp => ⟨m1, rfl, hp.givT [mp ekI evF m1 waysL]⟩)

theorem k_done1A (be : Nat) (w : World) : CallsD Try.prog 84 #[.pointer (some ⟨be, 0, none⟩)] .returning w (fun e u' w' => (∃ v, e = .returned v) ∧ u' = .returning ∧ Grow w w') := by
  refine callsD_rec .nilIface (fun i => i < w.heap.size) [] [] Try.func84 rfl (by rw [Try.ntmps84]; simp) (by rw [Try.ntmps84]; decide) (by rw [Try.ntmps84]; decide) rfl rfl rfl rfl rfl rfl (fun c₀ cs h => .inr ⟨rec_ret c₀ cs h, rfl, rfl⟩) ⟨rfl, rfl, rfl, Nat.le_refl _, fun _ hi => ⟨hi, rfl⟩, fun _ h => (by cases h), .nil, fun _ h => (by cases h)⟩ ?_
  refine cj_seq ?_
  refine cj_regionG (gj_step (y_move rfl) rfl rfl rfl (gj_step (y_neqNilI false ⟨_, Try.underlying20⟩ rfl (.inl ⟨rfl, rfl⟩)) rfl rfl rfl (gj_nil ?_)))
  refine ej_th ?_
  refine cj_condF rfl (rfl) ?_
  refine cj_skip ?_
  exact ej_end0 rfl Try.results84 (fun w' hp => ⟨⟨_, rfl⟩, rfl, hp.below⟩)

theorem k_done1B (be : Nat) (E : Int) (w : World) (hbe : (ownB be (cellsB 27 [.int .i64 0])).P w) : CallsD Try.prog 84 #[.pointer (some ⟨be, 0, none⟩)] (.panicking (chP E)) w (fun e u' w' => (∃ v, e = .returned v) ∧ u' = .panicking [{ v := .iface 114 (.agg #[.int .i64 E]), recovered := true }] ∧ Mut (ownB be (cellsB 27 [.int .i64 0])) w w' ∧ w'.heap[be]? = some (cellsB 27 [.int .i64 E])) := by
  refine callsD_rec (.iface 114 (.agg #[.int .i64 E])) (fun i => i < w.heap.size ∧ i ≠ be) [ownB be (cellsB 27 [.int .i64 0])] [] Try.func84 rfl (by rw [Try.ntmps84]; simp) (by rw [Try.ntmps84]; decide) (by rw [Try.ntmps84]; decide) rfl rfl rfl rfl rfl rfl (fun c₀ cs h => .inl (rec_pan _ c₀ cs h)) ⟨rfl, rfl, rfl, Nat.le_refl _, fun _ hi => ⟨hi.1, rfl⟩, fun f hf => (by
    rw [List.mem_singleton.1 hf]
    exact ⟨hbe, fun b hb => by have hb : b = be := hb; subst hb; exact ⟨(Array.getElem?_eq_some_iff.1 hbe).1, fun h => h.2 rfl⟩⟩), List.pairwise_singleton .., fun _ h => (by cases h)⟩ ?_
  refine cj_seq ?_
  refine cj_regionG (gj_step (y_move rfl) rfl rfl rfl (gj_step (y_neqNilI true ⟨_, Try.underlying20⟩ rfl (.inr ⟨⟨_, _, rfl⟩, rfl⟩)) rfl rfl rfl (gj_nil ?_)))
  refine ej_th ?_
  refine cj_condT rfl (rfl) ?_
  refine cj_seq (cj_region ?_)
  refine oj_step (y_move rfl) rfl rfl rfl ?_
  refine oj_step (y_typeAssertT Try.underlying114 (fun _ h => by cases h) rfl) rfl rfl rfl ?_
  refine oj_step (y_move rfl) rfl rfl rfl ?_
  refine oj_step (y_extract rfl rfl) rfl rfl rfl ?_
  refine oj_step (y_extract rfl rfl) rfl rfl rfl ?_
  refine oj_alloc Try.zeroValue114 rfl rfl (fun b2 => ?_)
  refine oj_store rfl rfl rfl rfl Try.sizeOf114 rfl ?_
  refine oj_step (y_assign rfl) rfl rfl rfl ?_
  refine oj_nil ?_
  refine ej_th (cj_seq (cj_seq ?_))
  refine cj_regionG (gj_step (y_move rfl) rfl rfl rfl (gj_step (y_not rfl) rfl rfl rfl (gj_nil ?_)))
  refine ej_th ?_
  refine cj_condF rfl (rfl) ?_
  refine cj_skip (ej_th (cj_region ?_))
  refine oj_step (y_fa0 fa114_0 rfl) rfl rfl rfl ?_
  refine oj_step (y_load1 Try.isAgg27 rfl rfl) rfl rfl rfl ?_
  refine oj_store rfl rfl rfl rfl Try.sizeOf27 rfl ?_
  refine oj_nil ?_
  exact ej_end0 rfl Try.results84 (fun w' hp => ⟨⟨_, rfl⟩, rfl, hp.mut, hp.own1⟩)

end Go.Proofs.Ytomidcehahdmbaa
namespace Go.Proofs.Ytomidcehahdmbaa
open Go.Sx Go.RowKit Vm
set_option maxRecDepth 20000
set_option maxHeartbeats 1600000 in
theorem k_done (s : StrV) (st : LogV) (l : List CarryV) (A : Option Addr) (cc b m : Nat) (fp fpl : Nat → Prop) (w : World) (hb : strB s.s = true) (hall : ∀ c ∈ l, COk s.s c) (hll : l.length ≤ 64) (hI : Inv s.s st) (hO : ∀ f ∈ (lgF b m s st), f.P w ∧ ∀ b, f.fp b → b < w.heap.size) (hap : (lgF b m s st).Pairwise (fun f g => ∀ b, f.fp b → ¬ g.fp b)) (hS : ∀ g ∈ [strF fp s, sl fpl 8 encCa A l], g.P w ∧ ∀ i, g.fp i → i < w.heap.size ∧ ∀ f ∈ (lgF b m s st), ¬ f.fp i) : Calls Try.prog 66 #[.pointer (some ⟨b, 0, none⟩), .slice A l.length cc] w (fun e w' => ∃ _ : Unit, e = .returned (.tuple #[.int .i64 ((run s.s st l).2.1 : Nat), .int .i64 (run s.s st l).2.2]) ∧ Giv (lgF b m s st) w w' (lgF b m s (run s.s st l).1)) := by
  refine enterDO (args := [.pointer (some ⟨b, 0, none⟩), .slice A l.length cc]) (lgF b m s st) [strF fp s, sl fpl 8 encCa A l] Try.func66 rfl (by rw [Try.ntmps66]; simp) hO hap hS ?_
  refine cj_seq (cj_region ?_)
  refine oj_step (y_assign rfl) rfl rfl rfl ?_
  refine oj_alloc Try.zeroValue27 rfl rfl (fun b5 => ?_)
  refine oj_nil ?_
  refine ej_th (cj_seq (cj_region ?_))
  refine oj_step (y_makeFunc rfl rfl) rfl rfl rfl ?_
  refine oj_defer rfl rfl rfl ?_
  refine oj_nil ?_
  refine ej_th (cj_seq (cj_region ?_))
  refine oj_callL (X := Nat) (fun z => .map (some z)) [] (fun z => [mp ekI evF z waysL]) Try.call85 rfl rfl (fun w1 hp => k_ways w1) rfl (fun m10 => ?_)
  dsimp only [lgF, List.cons_append, List.nil_append]
  refine oj_step (y_assign rfl) rfl rfl rfl ?_
  refine oj_nil ?_
  refine ej_th (cj_seq (cj_seq ?_))
  refine cj_regionG (gj_step (y_move rfl) rfl rfl rfl (gj_step (y_lenA Try.underlying45 rfl) rfl rfl rfl (gj_step (y_move rfl) rfl rfl rfl (gj_nil ?_))))
  refine ej_th (cj_block ?_)
  refine cj_takes [logB1 b s m st, mp ekI evB m (sealL st.seals), mp ekI evF m10 waysL, ownB b5 (cellsB 27 [.int .i64 0])] ?_
  refine cj_lpi (X := Nat × Int × LogV) [(0, _), (1, _), (5, _), (6, _), (11, _), (12, _)] (fun ⟨k, a, g⟩ => k ≤ l.length ∧ run s.s st (l.take k) = (g, k, 0)) (fun ⟨k, a, g⟩ => [(4, .int .i64 a), (13, .int .i64 (k : Nat))]) (fun ⟨k, a, g⟩ => [logB1 b s m g, mp ekI evB m (sealL g.seals), mp ekI evF m10 waysL, ownB b5 (cellsB 27 [.int .i64 0])]) (fun ⟨k, a, g⟩ => [strF fp s, sl fpl 8 encCa A l]) (fun ⟨k, a, g⟩ => l.length - k) (0, 0, st) (⟨Nat.zero_le _, by rw [List.take_zero]; rfl⟩) ⟨rfl, rfl, rfl, rfl, rfl, rfl, rfl, rfl, trivial⟩ ?_
  rintro ⟨k, a, g⟩ ⟨hk, hrun⟩
  dsimp only [List.cons_append, List.nil_append]
  refine cj_seq ?_
  refine cj_regionG (gj_step (y_lss rfl rfl) rfl rfl rfl (gj_nil ?_))
  refine ej_th (cj_seq ?_)
  refine cj_cond rfl (fun h14 => ?_) (fun h14 => ?_)
  · have h14b := h14
    try simp only [sxb] at h14
    obtain ⟨c, hck⟩ : ∃ c, l[k]? = some c := ⟨_, List.getElem?_eq_getElem (by omega)⟩
    have hcc := hall c (List.mem_of_getElem? hck)
    have hIg : Inv s.s g := by
      have h9 := Inv.run hb (l.take k) st hI (fun x hx => hall x (List.mem_of_mem_take hx))
      rw [hrun] at h9; exact h9
    have hlg := inv_lens hIg
    have hbg := hcc.bag
    refine cj_skip (ej_th (cj_seq (cj_block (cj_seq (cj_region ?_)))))
    refine oj_step (y_move rfl) rfl rfl rfl ?_
    refine oj_step (y_ixR (reads_sl) Try.underlying45 Try.sizeOf52 rfl rfl (⟨by omega, by omega⟩)) rfl rfl rfl ?_
    refine oj_step (y_ldW (reads_sl) Try.isAgg52 Try.sizeOf52 rfl (hck) (fun _ => rfl)) rfl rfl rfl ?_
    refine oj_alloc Try.zeroValue52 rfl rfl (fun b8 => ?_)
    refine oj_step (y_assign rfl) rfl rfl rfl ?_
    refine oj_store rfl rfl rfl rfl Try.sizeOf52 rfl ?_
    refine oj_nil ?_
    refine ej_th (cj_seq ?_)
    refine cj_regionG (gj_step (y_move rfl) rfl rfl rfl (gj_step (y_assign rfl) rfl rfl rfl (gj_nil ?_)))
    refine ej_th (cj_seq (cj_region ?_))
    refine oj_step (y_move rfl) rfl rfl rfl ?_
    refine oj_step (y_fa fa52_1 rfl) rfl rfl rfl ?_
    refine oj_step (y_load1 Try.isAgg3 rfl rfl) rfl rfl rfl ?_
    refine oj_step (y_lookupG (ek := ekI) (ev := evF) (kk := c.kind) none (way_get hcc.kind) Try.underlying116 Try.underlying3 Try.zeroValue118 rfl rfl) rfl rfl rfl ?_
    refine oj_step (y_move rfl) rfl rfl rfl ?_
    refine oj_step (y_loadN Try.isAgg52 Try.sizeOf52 rfl) rfl rfl rfl ?_
    refine oj_callLP (X := Unit) (Y := Unit) (fun _ => .tuple #[]) (fun _ => chP (stepE s.s g c)) (fun _ => stepE s.s g c = 0) (fun _ => stepE s.s g c ≠ 0) (lgF b m s g) (fun _ => (lgF b m s (stepM g c))) (fun _ => (lgF b m s g)) (way_enter hcc.kind) rfl rfl (fun w1 hp => by
      obtain ⟨q1, q2, q3⟩ := hp.ownL (Os := (lgF b m s g)) inferInstance
      exact k_step s g c b m fp w1 hb hcc hIg q1 q2 (fun f hf => q3 f (by rw [List.mem_singleton.1 hf]; exact .head _))) rfl (fun _ hsF => ?_) (fun _ hsT => ?_)
    · dsimp only [lgF, List.cons_append, List.nil_append]
      repeat (first | with_reducible refine ej_then_pan ?_ | with_reducible refine ej_blk_pan ?_ | with_reducible refine ej_noGoto_pan ?_ | with_reducible refine ej_np_pan ?_)
      have hr9 := run_bad hrun hck hsF
      refine ej_panD (ob := cellsB 27 [.int .i64 0]) (ob' := cellsB 27 [.int .i64 (stepE s.s g c)]) rfl Try.call84 rfl (fun w1 hp => k_done1B b5 (stepE s.s g c) w1 hp.own1) (fun a w1 hr hp => ⟨_, res_TC Try.results66 rfl (y_load1 Try.isAgg27 rfl rfl) rfl hr hp, (), by rw [hr9], by rw [hr9]; exact hp.givT (lgF b m s g)⟩)
    dsimp only [lgF, List.cons_append, List.nil_append]
    refine oj_nil ?_
    refine ej_th ?_
    refine cj_plan 20 (by kernel_rfl) (by kernel_rfl) ?_
    refine pl_y 0 rfl (y_move rfl) rfl rfl rfl rfl (by kernel_rfl) ?_
    refine pl_y 1 rfl (y_fa fa52_2 rfl) rfl rfl rfl rfl (by kernel_rfl) ?_
    refine pl_y 2 rfl (y_load1 Try.isAgg3 rfl rfl) rfl rfl rfl rfl (by kernel_rfl) ?_
    refine pl_y 3 rfl (y_move rfl) rfl rfl rfl rfl (by kernel_rfl) ?_
    refine pl_y 4 rfl (y_fa fa52_2 rfl) rfl rfl rfl rfl (by kernel_rfl) ?_
    refine pl_y 5 rfl (y_load1 Try.isAgg3 rfl rfl) rfl rfl rfl rfl (by kernel_rfl) ?_
    refine pl_y 6 rfl (y_fa fa52_4 rfl) rfl rfl rfl rfl (by kernel_rfl) ?_
    refine pl_y 7 rfl (y_load1 Try.isAgg3 rfl rfl) rfl rfl rfl rfl (by kernel_rfl) ?_
    refine pl_y 8 rfl (y_fa fa52_5 rfl) rfl rfl rfl rfl (by kernel_rfl) ?_
    refine pl_y 9 rfl (y_load1 Try.isAgg3 rfl rfl) rfl rfl rfl rfl (by kernel_rfl) ?_
    refine pl_y 10 rfl (y_nil rfl) rfl rfl rfl rfl (by kernel_rfl) ?_
    refine pl_y 11 rfl (y_fa fa95_1 rfl) rfl rfl rfl rfl (by kernel_rfl) ?_
    refine pl_y 12 rfl (y_ixArr Try.underlying48 Try.sizeOf47 rfl rfl (by omega)) rfl rfl rfl rfl (by kernel_rfl) ?_
    refine pl_y 13 rfl (y_fa fa47_3 rfl) rfl rfl rfl rfl (by kernel_rfl) ?_
    refine pl_y 15 rfl (y_nil rfl) rfl rfl rfl rfl (by kernel_rfl) ?_
    refine pl_y 16 rfl (y_fa fa95_1 rfl) rfl rfl rfl rfl (by kernel_rfl) ?_
    refine pl_w1 14 (by kernel_rfl) rfl rfl (pl_fire rfl rfl rfl (by kernel_rfl) ?_)
    first | refine oj_store (vs := [.int .i64 c.by_]) (n := 1) (hset := set_bag (st := stepM g c) (u := withBy (bagAt (stepM g c) c.bag) c.by_) (hlg.stepM c) hbg [.int .i64 (bagAt (stepM g c) c.bag).room, .int .i64 (bagAt (stepM g c) c.bag).mark, .int .i64 (bagAt (stepM g c) c.bag).suits] [.int .i64 (bagAt (stepM g c) c.bag).with_] [.int .i64 (bagAt (stepM g c) c.bag).by_] [.int .i64 c.by_] rfl rfl rfl rfl) rfl rfl rfl rfl Try.sizeOf3 rfl ?_ | refine oj_store (vs := [.int .i64 c.by_]) (n := 1) (hset := set_bag (st := setB (stepM g c) c.bag (withWith (bagAt (stepM g c) c.bag) c.with_)) (u := withBy (withWith (bagAt (stepM g c) c.bag) c.with_) c.by_) ((hlg.stepM c).setB _ _) hbg [.int .i64 (bagAt (stepM g c) c.bag).room, .int .i64 (bagAt (stepM g c) c.bag).mark, .int .i64 (bagAt (stepM g c) c.bag).suits] [.int .i64 c.with_] [.int .i64 (bagAt (stepM g c) c.bag).by_] [.int .i64 c.by_] (by rw [bagAt_setB (hlg.stepM c) hbg]; rfl) rfl rfl rfl) rfl rfl rfl rfl Try.sizeOf3 rfl ?_
    refine oj_nil ?_
    refine ej_pl (lt_y (y_fa fa95_1 rfl) rfl (lt_y (y_nil rfl) rfl (lt_w (by kernel_rfl) (lt_y (y_ixArr Try.underlying48 Try.sizeOf47 rfl rfl (by omega)) rfl (lt_y (y_fa fa95_1 rfl) rfl (lt_y (y_nil rfl) rfl (lt_y (y_load1 Try.isAgg3 rfl rfl) rfl (lt_y (y_fa fa52_5 rfl) rfl (lt_w (by kernel_rfl) (lt_w (by kernel_rfl) (lt_y (y_load1 Try.isAgg3 rfl rfl) rfl (lt_y (y_fa fa52_2 rfl) rfl (lt_y (y_move rfl) rfl (lt_w (by kernel_rfl) (lt_w (by kernel_rfl) (lt_w (by kernel_rfl) (lt_nil))))))))))))))))) ?_
    refine pl_y 17 rfl (y_ixArr Try.underlying48 Try.sizeOf47 rfl rfl (by omega)) rfl rfl rfl rfl (by kernel_rfl) ?_
    refine pl_y 18 rfl (y_fa fa47_4 rfl) rfl rfl rfl rfl (by kernel_rfl) ?_
    refine pl_w1 19 (by kernel_rfl) rfl rfl (pl_fire rfl rfl rfl (by kernel_rfl) ?_)
    first | refine oj_store (vs := [.int .i64 c.with_]) (n := 1) (hset := set_bag (st := stepM g c) (u := withWith (bagAt (stepM g c) c.bag) c.with_) (hlg.stepM c) hbg [.int .i64 (bagAt (stepM g c) c.bag).room, .int .i64 (bagAt (stepM g c) c.bag).mark, .int .i64 (bagAt (stepM g c) c.bag).suits, .int .i64 (bagAt (stepM g c) c.bag).by_] [] [.int .i64 (bagAt (stepM g c) c.bag).with_] [.int .i64 c.with_] rfl rfl rfl rfl) rfl rfl rfl rfl Try.sizeOf3 rfl ?_ | refine oj_store (vs := [.int .i64 c.with_]) (n := 1) (hset := set_bag (st := setB (stepM g c) c.bag (withBy (bagAt (stepM g c) c.bag) c.by_)) (u := withWith (withBy (bagAt (stepM g c) c.bag) c.by_) c.with_) ((hlg.stepM c).setB _ _) hbg [.int .i64 (bagAt (stepM g c) c.bag).room, .int .i64 (bagAt (stepM g c) c.bag).mark, .int .i64 (bagAt (stepM g c) c.bag).suits, .int .i64 c.by_] [] [.int .i64 (bagAt (stepM g c) c.bag).with_] [.int .i64 c.with_] (by rw [bagAt_setB (hlg.stepM c) hbg]; rfl) rfl rfl rfl) rfl rfl rfl rfl Try.sizeOf3 rfl ?_
    refine oj_nil ?_
    refine ej_pl (lt_w (by kernel_rfl) (lt_y (y_ixArr Try.underlying48 Try.sizeOf47 rfl rfl (by omega)) rfl (lt_y (y_fa fa95_1 rfl) rfl (lt_y (y_nil rfl) rfl (lt_w (by kernel_rfl) (lt_w (by kernel_rfl) (lt_w (by kernel_rfl) (lt_w (by kernel_rfl) (lt_w (by kernel_rfl) (lt_w (by kernel_rfl) (lt_w (by kernel_rfl) (lt_w (by kernel_rfl) (lt_w (by kernel_rfl) (lt_w (by kernel_rfl) (lt_w (by kernel_rfl) (lt_w (by kernel_rfl) (lt_w (by kernel_rfl) (lt_w (by kernel_rfl) (lt_nil))))))))))))))))))) ?_
    refine pl_end (by kernel_rfl) ?_
    refine ej_blk (ej_th ?_)
    refine cj_regionG (gj_step (y_add rfl rfl (by omega)) rfl rfl rfl (gj_step (y_move rfl) rfl rfl rfl (gj_nil ?_)))
    first | rw [step_done hlg hbg] | rw [step_done' hlg hbg]
    rw [stepM_seals hlg hbg]
    exact ej_nx (k + 1, (k : Nat), stepN g c) (by first | omega | (simp only; omega)) ⟨by first | omega | (simp only; omega), run_next hrun hck hsT⟩ ⟨rfl, rfl, rfl, rfl, rfl, rfl, rfl, rfl, trivial⟩
  · have h14b := h14
    try simp only [sxb] at h14
    have hr9 := run_all hrun (by omega) hk
    refine cj_exit (ej_then_exit (ej_then_exit (ej_blk_hit (ej_th (cj_seq (cj_region ?_))))))
    refine oj_step (y_move rfl) rfl rfl rfl ?_
    refine oj_step (y_lenA Try.underlying45 rfl) rfl rfl rfl ?_
    refine oj_step (y_assign rfl) rfl rfl rfl ?_
    refine oj_store rfl rfl rfl rfl Try.sizeOf27 rfl ?_
    refine oj_nil ?_
    refine ej_th (cj_ret ?_)
    exact ej_retD rfl Try.call84 (fun w1 hp => k_done1A b5 w1) (fun a w1 hr hp => ⟨_, res_TC Try.results66 rfl (y_load1 Try.isAgg27 rfl rfl) rfl hr hp, (), by rw [hr9], by rw [hr9]; exact hp.givT (lgF b m s g)⟩)

end Go.Proofs.Ytomidcehahdmbaa
namespace Vm
open Go.Proofs.Ytomidcehahdmbaa
theorem fidx_lt {α : Type} (q : α → Bool) : ∀ (l : List α) (i : Int), fidx q l i = -1 ∨ (i ≤ fidx q l i ∧ fidx q l i < i + l.length)
  | [], i => .inl rfl
  | x :: l, i => by
    rw [fidx]
    by_cases h : q x = true
    · rw [if_pos h]; simp only [List.length_cons]; omega
    · rw [if_neg h]
      have := fidx_lt q l (i + 1)
      simp only [List.length_cons]; omega
def afterI (l : List CarryV) (day : Int) : Int := fidx (fun c => decide (day < c.day)) l 0
def uptoN (l : List CarryV) (day : Int) : Nat := if afterI l day < 0 then l.length else (afterI l day).toNat
theorem upto_le (l : List CarryV) (day : Int) : uptoN l day ≤ l.length := by
  unfold uptoN afterI
  have := fidx_lt (fun c : CarryV => decide (day < c.day)) l 0
  split <;> omega
def whereE (s : Str) (l : List CarryV) (bag day : Int) : Int := if playE s l = 0 then (if (btw 0 bag 31 && btw 0 day 36500) = true then 0 else 7) else playE s l
def whereR (s : Str) (l : List CarryV) (bag day : Int) : Int := if whereE s l bag day = 0 then ((playB s (l.take (uptoN l day))).getD bag.toNat bag0).room else 0
theorem playB_len {s : Str} (l : List CarryV) : (playB s l).length = 32 := by
  unfold playB
  by_cases h : playE s l = 0
  · rw [if_pos h]
    unfold playE at h
    by_cases hs : strB s = true
    · rw [if_pos hs] at h
      by_cases hl : logB s l = true
      · exact (Inv.run hs l log0 (Inv.start hs) (log_ok hl)).len
      · rw [if_neg hl] at h; omega
    · rw [if_neg hs] at h; omega
  · rw [if_neg h]; rfl
/-- The bag's rooms since its seal was right. -/
def sinceL (s : Str) (l : List CarryV) (bag : Int) : Nat → List Int
  | 0 => []
  | k + 1 => match l[k]? with
    | none => sinceL s l bag k
    | some c => if c.bag = bag then (if c.kind = 2 then sinceL s l bag k else []) ++ [((playB s (l.take (k + 1))).getD bag.toNat bag0).room] else sinceL s l bag k
def suspE (s : Str) (l : List CarryV) (bag : Int) : Int := if playE s l = 0 then (if btw 0 bag 31 = true then (if ((playB s l).getD bag.toNat bag0).room = 0 then 44 else 0) else 7) else playE s l
def suspV (s : Str) (l : List CarryV) (bag : Int) : List Nat := if suspE s l bag = 0 then minL ((sinceL s l bag l.length).flatMap fun r => groupsV s r.toNat) else []
theorem play_num {s : Str} (l : List CarryV) {n : Int} (hn : 0 ≤ n ∧ n ≤ 31) : 0 ≤ ((playB s l).getD n.toNat bag0).room ∧ ((playB s l).getD n.toNat bag0).room ≤ 5 := by
  have h32 := playB_len (s := s) l
  have hat : (playB s l)[n.toNat]? = some ((playB s l).getD n.toNat bag0) := by
    have hlt : n.toNat < (playB s l).length := by omega
    rw [List.getD_eq_getElem?_getD, List.getElem?_eq_getElem hlt]; rfl
  generalize hb : (playB s l).getD n.toNat bag0 = b at hat
  unfold playB at hat
  by_cases h : playE s l = 0
  · rw [if_pos h] at hat
    unfold playE at h
    by_cases hs : strB s = true
    · rw [if_pos hs] at h
      by_cases hl : logB s l = true
      · have := (Inv.run hs l log0 (Inv.start hs) (log_ok hl)).nums _ _ hat
        omega
      · rw [if_neg hl] at h; omega
    · rw [if_neg hs] at h; omega
  · rw [if_neg h] at hat
    have : b = bag0 := (List.mem_replicate.1 (List.mem_of_getElem? hat)).2
    subst this
    exact ⟨Int.le_refl _, by decide⟩
theorem since_bd {s : Str} {l : List CarryV} {bag : Int} (hb : 0 ≤ bag ∧ bag ≤ 31) : ∀ k, (∀ r ∈ sinceL s l bag k, 0 ≤ r ∧ r ≤ 5) ∧ (sinceL s l bag k).length ≤ k
  | 0 => ⟨fun r h => (nomatch h), Nat.le_refl _⟩
  | k + 1 => by
    obtain ⟨h1, h2⟩ := since_bd (s := s) (l := l) hb k
    rw [sinceL]
    cases hc : l[k]? with
    | none => exact ⟨h1, Nat.le_succ_of_le h2⟩
    | some c =>
      dsimp only
      by_cases e : c.bag = bag
      · rw [if_pos e]
        have hp := play_num (s := s) (l.take (k + 1)) hb
        by_cases k2 : c.kind = 2
        · rw [if_pos k2]
          refine ⟨fun r hr => ?_, by rw [List.length_append]; simp only [List.length_cons, List.length_nil]; omega⟩
          rcases List.mem_append.1 hr with h | h
          · exact h1 r h
          · rw [List.mem_singleton.1 h]; exact hp
        · rw [if_neg k2]
          refine ⟨fun r hr => ?_, by simp⟩
          rw [List.nil_append] at hr
          rw [List.mem_singleton.1 hr]; exact hp
      · rw [if_neg e]; exact ⟨h1, by omega⟩
theorem since_no {s : Str} {l : List CarryV} {bag : Int} {k : Nat} {c : CarryV} (hc : l[k]? = some c) (e : c.bag ≠ bag) : sinceL s l bag (k + 1) = sinceL s l bag k := by
  rw [sinceL, hc]; dsimp only; rw [if_neg e]
theorem since_yes {s : Str} {l : List CarryV} {bag : Int} {k : Nat} {c : CarryV} (hc : l[k]? = some c) (e : c.bag = bag) : sinceL s l bag (k + 1) = (if c.kind = 2 then sinceL s l bag k else []) ++ [((playB s (l.take (k + 1))).getD bag.toNat bag0).room] := by
  rw [sinceL, hc]; dsimp only; rw [if_pos e]
theorem play_0 {s : Str} {l : List CarryV} (h : playE s l = 0) : strB s = true ∧ logB s l = true ∧ l.length ≤ 64 := by
  unfold playE at h
  by_cases hs : strB s = true
  · rw [if_pos hs] at h
    by_cases hl : logB s l = true
    · have h9 := hl
      unfold logB at h9
      rw [Bool.and_eq_true, decide_eq_true_iff] at h9
      exact ⟨hs, hl, h9.2⟩
    · rw [if_neg hl] at h; omega
  · rw [if_neg hs] at h; omega
theorem flat_len {f : Int → List Nat} (hf : ∀ r, (f r).length ≤ 64) : ∀ l : List Int, (l.flatMap f).length ≤ 64 * l.length
  | [] => Nat.le_refl _
  | r :: l => by
    rw [List.flatMap_cons, List.length_append]
    have := hf r
    have := flat_len hf l
    simp only [List.length_cons]; omega
end Vm
namespace Go.Proofs.Ytomidcehahdmbaa
open Go Go.Sx Go.RowKit Vm
theorem ints_app (l m : List Nat) : intsL (l ++ m) = intsL l ++ intsL m := List.map_append
theorem bf_len {l : List BagV} (h : l.length = 32) : (l.flatMap encBa).length = 160 := by rw [flatMap_len encBa 5 enBa_len, h]
theorem bf_one (l : List BagV) : ((l.flatMap encBa).all fun v => v.oneCell') = true := by
  rw [List.all_flatMap, List.all_eq_true]
  exact fun b _ => rfl
theorem bf_at {l : List BagV} (h : l.length = 32) {n : Int} (hn : 0 ≤ n ∧ n ≤ 31) : l[n.toNat]? = some (l.getD n.toNat bag0) := by
  have hlt : n.toNat < l.length := by omega
  rw [List.getD_eq_getElem?_getD, List.getElem?_eq_getElem hlt]; rfl
theorem bf_room {l : List BagV} (h : l.length = 32) {n : Int} (hn : 0 ≤ n ∧ n ≤ 31) : (l.flatMap encBa)[0 + n.toNat * 5]? = some (.int .i64 (l.getD n.toNat bag0).room) := by
  rw [Nat.zero_add]
  exact flatMap_get encBa 5 enBa_len _ _ _ 0 (bf_at h hn) (by omega)
theorem all_eq {l m : List BagV} (hl : l.length = 32) (hm : m.length = 32) : ((List.range 32).all fun i => decide (l.getD i bag0 = m.getD i bag0)) = decide (l = m) := by
  rw [Bool.eq_iff_iff, List.all_eq_true, decide_eq_true_iff]
  constructor
  · intro h
    refine List.ext_getElem (by omega) fun i h1 h2 => ?_
    have h3 := of_decide_eq_true (h i (List.mem_range.2 (by omega)))
    rw [List.getD_eq_getElem?_getD, List.getD_eq_getElem?_getD, List.getElem?_eq_getElem h1, List.getElem?_eq_getElem h2] at h3
    exact h3
  · rintro rfl i _
    exact decide_eq_true rfl
theorem bf_part {l : List BagV} (h : l.length = 32) {i : Nat} (hi : i < 32) : ((l.flatMap encBa).drop (i * 5)).take 5 = encBa (l.getD i bag0) := by
  refine take_tk (tk_bag ?_)
  have hlt : i < l.length := by omega
  rw [List.getD_eq_getElem?_getD, List.getElem?_eq_getElem hlt]; rfl
end Go.Proofs.Ytomidcehahdmbaa
namespace Go.Proofs.Ytomidcehahdmbaa
open Go.Sx Go.RowKit Vm
set_option maxRecDepth 20000
set_option maxHeartbeats 1600000 in
theorem k_Play (s : StrV) (l : List CarryV) (A : Option Addr) (cc : Nat) (w : World) (hs : StrRd w s) (hl : Rd w 8 encCa A l) : Calls Try.prog 30 #[.agg #[.slice s.Ar s.rooms.length s.cr, .slice s.Ag s.gates.length s.cg, .slice s.As s.staff.length s.cs], .slice A l.length cc] w (fun e w' => e = .returned (.tuple #[.agg ((playB s.s l).flatMap encBa).toArray, .int .i64 ((playAt s.s l) : Nat), .int .i64 (playE s.s l)]) ∧ Grow w w') := by
  refine enter_pure (args := [.agg #[.slice s.Ar s.rooms.length s.cr, .slice s.Ag s.gates.length s.cg, .slice s.As s.staff.length s.cs], .slice A l.length cc]) [strF (fun b => b < w.heap.size) s, sl (fun b => b < w.heap.size) 8 encCa A l] Try.func30 rfl (by rw [Try.ntmps30]; simp) (fun g hg => by
    rcases List.mem_cons.1 hg with rfl | hg
    · exact ⟨str_F hs, fun _ h => h⟩
    · rw [List.mem_singleton.1 hg]; exact ⟨hl, fun _ h => h⟩) ?_
  refine cj_seq (cj_region ?_)
  refine oj_box rfl rfl rfl (fun b2 => ?_)
  refine oj_alloc Try.zeroValue48 rfl rfl (fun b4 => ?_)
  refine oj_step (y_assign rfl) rfl rfl rfl ?_
  refine oj_step (y_assign rfl) rfl rfl rfl ?_
  refine oj_nil ?_
  refine ej_th (cj_seq (cj_seq ?_))
  refine cj_eqO [ownB b4 (cellsB 48 ((bags0).flatMap encBa)), ownB b2 (cellsB 26 [.slice s.Ar s.rooms.length s.cr, .slice s.Ag s.gates.length s.cg, .slice s.As s.staff.length s.cs])] rfl ?_
  refine cj_regionG ?_
  refine gj_step (y_loadN Try.isAgg26 Try.sizeOf26 rfl) rfl rfl rfl (?_)
  refine gj_step (y_call Try.call15 rfl (fun w hp => k_Check s w (hs.mono hp.below))) rfl rfl rfl ?_
  refine gj_step (y_assign rfl) rfl rfl rfl (?_)
  refine gj_nil ?_
  refine ej_th (cj_seq ?_)
  refine cj_regionG (gj_step (y_move rfl) rfl rfl rfl (gj_step (y_neq rfl rfl) rfl rfl rfl (gj_nil ?_)))
  refine ej_th ?_
  refine cj_cond rfl (fun h12 => ?_) (fun h12 => ?_)
  · have h12b := h12
    try simp only [sxb] at h12
    obtain ⟨hnb, h40⟩ := strE_f h12
    refine cj_seq (cj_region ?_)
    refine oj_step (y_loadN (hv := tk_all _ (bf_len rfl)) Try.isAgg48 Try.sizeOf48 rfl) rfl rfl rfl ?_
    refine oj_step (y_move rfl) rfl rfl rfl ?_
    first | refine oj_store (vs := ((bags0).flatMap encBa)) (n := 160) (hset := set_all _ _ rfl) rfl rfl rfl (bf_one _) Try.sizeOf48 (bf_len rfl) ?_ | refine oj_store (vs := (((run s.s log0 l).1.bags).flatMap encBa)) (n := 160) (hset := set_all _ _ (by rw [bf_len hl32, bf_len rfl])) rfl rfl rfl (bf_one _) Try.sizeOf48 (bf_len hl32) ?_
    refine oj_step (y_assign rfl) rfl rfl rfl ?_
    refine oj_step (y_assign rfl) rfl rfl rfl ?_
    refine oj_nil ?_
    refine ej_th (cj_ret (ej_then_ret ?_))
    exact ej_retC3 rfl Try.results30 rfl (y_loadN (hv := tk_all _ (bf_len rfl)) Try.isAgg48 Try.sizeOf48 rfl) rfl rfl (fun w' hp => ⟨by
      have hE : playE s.s l = 40 := by rw [playE, if_neg (by rw [hnb]; simp)]
      have hA : playAt s.s l = 0 := by rw [playAt, if_neg (by rw [hnb]; simp)]
      rw [playB, if_neg (by rw [hE]; decide), hE, hA, h40]; rfl, hp.below⟩)
  · have h12b := h12
    try simp only [sxb] at h12
    have hb := strE_t (by simpa using h12)
    refine cj_skip (ej_th (cj_seq (cj_seq ?_)))
    refine cj_regionG ?_
    refine gj_step (y_loadN Try.isAgg26 Try.sizeOf26 rfl) rfl rfl rfl (gj_step (y_move rfl) rfl rfl rfl (?_))
    refine gj_step (y_call Try.call65 rfl (fun w hp => k_valid s l A cc w (hs.mono hp.below) hp.rd)) rfl rfl rfl ?_
    refine gj_step (y_not rfl) rfl rfl rfl (?_)
    refine gj_nil ?_
    refine ej_th ?_
    refine cj_cond rfl (fun h18 => ?_) (fun h18 => ?_)
    · have h18b := h18
      try simp only [sxb] at h18
      have hlb := not_t h18b
      refine cj_seq (cj_region ?_)
      refine oj_step (y_loadN (hv := tk_all _ (bf_len rfl)) Try.isAgg48 Try.sizeOf48 rfl) rfl rfl rfl ?_
      first | refine oj_store (vs := ((bags0).flatMap encBa)) (n := 160) (hset := set_all _ _ rfl) rfl rfl rfl (bf_one _) Try.sizeOf48 (bf_len rfl) ?_ | refine oj_store (vs := (((run s.s log0 l).1.bags).flatMap encBa)) (n := 160) (hset := set_all _ _ (by rw [bf_len hl32, bf_len rfl])) rfl rfl rfl (bf_one _) Try.sizeOf48 (bf_len hl32) ?_
      refine oj_step (y_assign rfl) rfl rfl rfl ?_
      refine oj_step (y_assign rfl) rfl rfl rfl ?_
      refine oj_nil ?_
      refine ej_th (cj_ret (ej_then_ret ?_))
      exact ej_retC3 rfl Try.results30 rfl (y_loadN (hv := tk_all _ (bf_len rfl)) Try.isAgg48 Try.sizeOf48 rfl) rfl rfl (fun w' hp => ⟨by
        have hE : playE s.s l = 43 := by rw [playE, if_pos hb, if_neg (by rw [hlb]; simp)]
        have hA : playAt s.s l = 0 := by rw [playAt, if_pos hb, if_neg (by rw [hlb]; simp)]
        rw [playB, if_neg (by rw [hE]; decide), hE, hA]; rfl, hp.below⟩)
    · have h18b := h18
      try simp only [sxb] at h18
      have hlb := not_f h18b
      have hall := log_ok hlb
      have hll : l.length ≤ 64 := by
        have h9 := hlb
        unfold logB at h9
        rw [Bool.and_eq_true, decide_eq_true_iff] at h9
        exact h9.2
      have hIr := Inv.run hb l log0 (Inv.start hb) hall
      have hlg := inv_lens hIr
      have hl32 := hlg.b
      have hE : playE s.s l = (run s.s log0 l).2.2 := by rw [playE, if_pos hb, if_pos hlb]
      have hA : playAt s.s l = (run s.s log0 l).2.1 := by rw [playAt, if_pos hb, if_pos hlb]
      refine cj_skip (ej_th (cj_seq (cj_region ?_)))
      refine oj_step (y_loadN Try.isAgg26 Try.sizeOf26 rfl) rfl rfl rfl ?_
      refine oj_makeMap ekI evB rfl (fun m21 => ?_)
      refine oj_step (y_build (cs := [.slice s.Ar s.rooms.length s.cr, .slice s.Ag s.gates.length s.cg, .slice s.As s.staff.length s.cs, .int .i64 0, .int .i64 0, .int .i64 0, .int .i64 0, .int .i64 0, .int .i64 0, .int .i64 0, .int .i64 0, .int .i64 0, .int .i64 0, .int .i64 0, .int .i64 0, .int .i64 0, .int .i64 0, .int .i64 0, .int .i64 0, .int .i64 0, .int .i64 0, .int .i64 0, .int .i64 0, .int .i64 0, .int .i64 0, .int .i64 0, .int .i64 0, .int .i64 0, .int .i64 0, .int .i64 0, .int .i64 0, .int .i64 0, .int .i64 0, .int .i64 0, .int .i64 0, .int .i64 0, .int .i64 0, .int .i64 0, .int .i64 0, .int .i64 0, .int .i64 0, .int .i64 0, .int .i64 0, .int .i64 0, .int .i64 0, .int .i64 0, .int .i64 0, .int .i64 0, .int .i64 0, .int .i64 0, .int .i64 0, .int .i64 0, .int .i64 0, .int .i64 0, .int .i64 0, .int .i64 0, .int .i64 0, .int .i64 0, .int .i64 0, .int .i64 0, .int .i64 0, .int .i64 0, .int .i64 0, .int .i64 0, .int .i64 0, .int .i64 0, .int .i64 0, .int .i64 0, .int .i64 0, .int .i64 0, .int .i64 0, .int .i64 0, .int .i64 0, .int .i64 0, .int .i64 0, .int .i64 0, .int .i64 0, .int .i64 0, .int .i64 0, .int .i64 0, .int .i64 0, .int .i64 0, .int .i64 0, .int .i64 0, .int .i64 0, .int .i64 0, .int .i64 0, .int .i64 0, .int .i64 0, .int .i64 0, .int .i64 0, .int .i64 0, .int .i64 0, .int .i64 0, .int .i64 0, .int .i64 0, .int .i64 0, .int .i64 0, .int .i64 0, .int .i64 0, .int .i64 0, .int .i64 0, .int .i64 0, .int .i64 0, .int .i64 0, .int .i64 0, .int .i64 0, .int .i64 0, .int .i64 0, .int .i64 0, .int .i64 0, .int .i64 0, .int .i64 0, .int .i64 0, .int .i64 0, .int .i64 0, .int .i64 0, .int .i64 0, .int .i64 0, .int .i64 0, .int .i64 0, .int .i64 0, .int .i64 0, .int .i64 0, .int .i64 0, .int .i64 0, .int .i64 0, .int .i64 0, .int .i64 0, .int .i64 0, .int .i64 0, .int .i64 0, .int .i64 0, .int .i64 0, .int .i64 0, .int .i64 0, .int .i64 0, .int .i64 0, .int .i64 0, .int .i64 0, .int .i64 0, .int .i64 0, .int .i64 0, .int .i64 0, .int .i64 0, .int .i64 0, .int .i64 0, .int .i64 0, .int .i64 0, .int .i64 0, .int .i64 0, .int .i64 0, .int .i64 0, .int .i64 0, .int .i64 0, .int .i64 0, .int .i64 0, .int .i64 0, .int .i64 0, .int .i64 0, .int .i64 0, .int .i64 0, .int .i64 0, .bool false, .bool false, .bool false, .bool false, .bool false, .bool false, .bool false, .bool false, .bool false, .bool false, .bool false, .bool false, .bool false, .bool false, .bool false, .bool false, .bool false, .bool false, .bool false, .bool false, .bool false, .bool false, .bool false, .bool false, .bool false, .bool false, .bool false, .bool false, .bool false, .bool false, .bool false, .bool false, .map (some m21)]) st95 rfl (by kernel_rfl)) rfl rfl rfl ?_
      refine oj_box rfl rfl rfl (fun b23 => ?_)
      refine oj_step (y_assign rfl) rfl rfl rfl ?_
      refine oj_nil ?_
      refine ej_th (cj_seq ?_)
      refine cj_eqO [logB1 b23 s m21 log0, mp ekI evB m21 (sealL log0.seals), ownB b4 (cellsB 48 ((bags0).flatMap encBa)), ownB b2 (cellsB 26 [.slice s.Ar s.rooms.length s.cr, .slice s.Ag s.gates.length s.cg, .slice s.As s.staff.length s.cs])] rfl ?_
      refine cj_region ?_
      refine oj_step (y_move rfl) rfl rfl rfl ?_
      refine oj_step (y_move rfl) rfl rfl rfl ?_
      refine oj_callL (X := Unit) (fun _ => .tuple #[.int .i64 ((run s.s log0 l).2.1 : Nat), .int .i64 (run s.s log0 l).2.2]) (lgF b23 m21 s log0) (fun _ => lgF b23 m21 s (run s.s log0 l).1) Try.call66 rfl rfl (fun w1 hp => by
        obtain ⟨q1, q2, q3⟩ := hp.ownL (Os := lgF b23 m21 s log0) inferInstance
        exact k_done s log0 l A cc b23 m21 _ _ w1 hb hall hll (Inv.start hb) q1 q2 q3) rfl (fun _ => ?_)
      dsimp only [lgF, List.cons_append, List.nil_append]
      refine oj_step (y_move rfl) rfl rfl rfl ?_
      refine oj_step (y_extract rfl rfl) rfl rfl rfl ?_
      refine oj_step (y_extract rfl rfl) rfl rfl rfl ?_
      refine oj_step (y_assign rfl) rfl rfl rfl ?_
      refine oj_step (y_assign rfl) rfl rfl rfl ?_
      refine oj_nil ?_
      refine ej_th (cj_seq (cj_seq ?_))
      refine cj_regionG (gj_step (y_move rfl) rfl rfl rfl (gj_step (y_neq rfl rfl) rfl rfl rfl (gj_nil ?_)))
      refine ej_th ?_
      refine cj_cond rfl (fun h31 => ?_) (fun h31 => ?_)
      · have h31b := h31
        try simp only [sxb] at h31
        refine cj_seq (cj_region ?_)
        refine oj_step (y_loadN (hv := tk_all _ (bf_len rfl)) Try.isAgg48 Try.sizeOf48 rfl) rfl rfl rfl ?_
        refine oj_step (y_move rfl) rfl rfl rfl ?_
        refine oj_step (y_move rfl) rfl rfl rfl ?_
        first | refine oj_store (vs := ((bags0).flatMap encBa)) (n := 160) (hset := set_all _ _ rfl) rfl rfl rfl (bf_one _) Try.sizeOf48 (bf_len rfl) ?_ | refine oj_store (vs := (((run s.s log0 l).1.bags).flatMap encBa)) (n := 160) (hset := set_all _ _ (by rw [bf_len hl32, bf_len rfl])) rfl rfl rfl (bf_one _) Try.sizeOf48 (bf_len hl32) ?_
        refine oj_step (y_assign rfl) rfl rfl rfl ?_
        refine oj_step (y_assign rfl) rfl rfl rfl ?_
        refine oj_nil ?_
        refine ej_th (cj_ret (ej_then_ret ?_))
        exact ej_retC3 rfl Try.results30 rfl (y_loadN (hv := tk_all _ (bf_len rfl)) Try.isAgg48 Try.sizeOf48 rfl) rfl rfl (fun w' hp => ⟨by
          rw [playB, if_neg (by rw [hE]; exact h31), hE, hA]; try rfl, hp.below⟩)
      · have h31b := h31
        try simp only [sxb] at h31
        refine cj_skip (ej_th (cj_seq (cj_region ?_)))
        refine oj_step (y_move rfl) rfl rfl rfl ?_
        refine oj_step (y_nil rfl) rfl rfl rfl ?_
        refine oj_step (y_fa fa95_1 rfl) rfl rfl rfl ?_
        refine oj_step (y_loadN (hv := tk_bags hlg) Try.isAgg48 Try.sizeOf48 rfl) rfl rfl rfl ?_
        refine oj_step (y_move rfl) rfl rfl rfl ?_
        first | refine oj_store (vs := ((bags0).flatMap encBa)) (n := 160) (hset := set_all _ _ rfl) rfl rfl rfl (bf_one _) Try.sizeOf48 (bf_len rfl) ?_ | refine oj_store (vs := (((run s.s log0 l).1.bags).flatMap encBa)) (n := 160) (hset := set_all _ _ (by rw [bf_len hl32, bf_len rfl])) rfl rfl rfl (bf_one _) Try.sizeOf48 (bf_len hl32) ?_
        refine oj_step (y_assign rfl) rfl rfl rfl ?_
        refine oj_step (y_assign rfl) rfl rfl rfl ?_
        refine oj_nil ?_
        refine ej_th (cj_ret ?_)
        exact ej_retC3 rfl Try.results30 rfl (y_loadN (hv := tk_all _ (bf_len hl32)) Try.isAgg48 Try.sizeOf48 rfl) rfl rfl (fun w' hp => ⟨by
          rw [playB, if_pos (by rw [hE]; simpa using h31), hE, hA, show (run s.s log0 l).2.2 = 0 by simpa using h31]; try rfl, hp.below⟩)

end Go.Proofs.Ytomidcehahdmbaa
