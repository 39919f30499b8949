/- Texts of ours, joined: 6 of them. Conditions: none. -/
import Derived.Test.YtomidcehahdmbaaZf
namespace Go.Proofs.Ytomidcehahdmbaa
open Go.Sx Go.RowKit Vm
set_option maxRecDepth 20000
theorem eq_bag (b c : BagV) (d : Nat) (w : World) : (Op.equalIn (d + 2) 47 (.agg (encBa b).toArray) (.agg (encBa c).toArray)).run Try.prog w = .ok (decide (b = c)) w := by
  have h : (decide (b = c)) = ((b.room == c.room) && (b.mark == c.mark) && (b.suits == c.suits) && (b.by_ == c.by_) && (b.with_ == c.with_)) := by
    obtain ⟨b1, b2, b3, b4, b5⟩ := b
    obtain ⟨c1, c2, c3, c4, c5⟩ := c
    rw [Bool.eq_iff_iff, decide_eq_true_iff]
    simp [BagV.mk.injEq, and_assoc]
  rw [h]
  have u := Try.underlying3
  simp [go_sem, Try.stoodInHeld47, Try.underlying47, Try.underlying3]
  try ((repeat' split) <;> simp_all)
theorem eq_bags {l m : List BagV} (hl : l.length = 32) (hm : m.length = 32) (x y : Operand) (w : World) : (do eqGuard .eql 48 x y (.agg (l.flatMap encBa).toArray) (.agg (m.flatMap encBa).toArray); binOp .eql 48 (.agg (l.flatMap encBa).toArray) (.agg (m.flatMap encBa).toArray) : Sem Value).run Try.prog w = .ok (.bool (decide (l = m))) w := by
  have h1 := run_eq_arr (P := Try.prog) (xs := (l.flatMap encBa).toArray) (ys := (m.flatMap encBa).toArray) (d := 9999) (fun i => decide (l.getD i bag0 = m.getD i bag0)) Try.underlying48 Try.sizeOf47 (fun i hi w => ⟨.agg (encBa (l.getD i bag0)).toArray, .agg (encBa (m.getD i bag0)).toArray, by simp [part, Try.isAgg47, Try.sizeOf47, bf_part hl hi], by simp [part, Try.isAgg47, Try.sizeOf47, bf_part hm hi], eq_bag _ _ 9997 w⟩) w
  rw [all_eq hl hm] at h1
  rw [Sem.run_bind, run_eqGuard_agg w .eql 48 x y _ _ Try.eqGuardType48, Result.andThen_ok, run_eql_struct, h1]; rfl

theorem k_IndexC (l : List CarryV) (A : Option Addr) (c : Nat) (f : Nat) (ca : Array Value) (q : CarryV → Bool) (w : World) (hl : Rd w 8 encCa A l) (hen : ∀ args w, (callFunc f args).run Try.prog w = .ok (.enter f args) w) (hpp : ∀ x ∈ l, ∀ w1, Grow w w1 → Calls Try.prog f (#[] ++ [.agg #[.int .i64 x.day, .int .i64 x.kind, .int .i64 x.bag, .int .i64 x.to_, .int .i64 x.by_, .int .i64 x.with_, .int .i64 x.mark, .int .i64 x.suits]].toArray ++ ca) w1 (fun e w2 => e = .returned (.bool (q x)) ∧ Grow w1 w2)) : Calls Try.prog 67 #[.slice A l.length c, .func (.func f) #[] ca] w (fun e w' => e = .returned (.int .i64 (fidx q l 0)) ∧ Grow w w') := by
  have hlen := hl.len
  refine enter_pure (args := [.slice A l.length c, .func (.func f) #[] ca]) [sl (fun b => b < w.heap.size) 8 encCa A l] Try.func67 rfl (by rw [Try.ntmps67]; simp) (fun g hg => by simp at hg; subst hg; exact ⟨hl, fun _ h => h⟩) ?_
  refine cj_seq ?_
  refine cj_regionG (gj_step (y_assign rfl) rfl rfl rfl (gj_nil ?_))
  refine ej_th (cj_seq (cj_seq ?_))
  refine cj_regionG (gj_step (y_move rfl) rfl rfl rfl (gj_step (y_lenA Try.underlying45 rfl) rfl rfl rfl (gj_step (y_move rfl) rfl rfl rfl (gj_nil ?_))))
  refine ej_th (cj_block ?_)
  refine cj_lpic (X := Nat) [(0, _), (1, _), (7, _)] (fun k => k ≤ l.length ∧ fidx q (l.drop k) k = fidx q l 0) (fun k => [(8, .int .i64 k)]) (fun k => l.length - k) 0 (⟨Nat.zero_le _, rfl⟩) ⟨rfl, rfl, rfl, rfl, trivial⟩ ?_
  rintro k ⟨hk, hsk⟩
  dsimp only [List.cons_append, List.nil_append]
  refine cj_seq ?_
  refine cj_regionG (gj_step (y_lss rfl rfl) rfl rfl rfl (gj_nil ?_))
  refine ej_th (cj_seq ?_)
  refine cj_cond rfl (fun h9 => ?_) (fun h9 => ?_)
  · have h9b := h9
    try simp only [sxb] at h9
    obtain ⟨x, hx⟩ : ∃ x, l[k]? = some x := ⟨_, List.getElem?_eq_getElem (by omega)⟩
    rw [fidx_drop q l k x hx] at hsk
    refine cj_skip (ej_th (cj_seq (cj_block (cj_seq ?_))))
    refine cj_regionG (gj_step (y_move rfl) rfl rfl rfl (gj_step (y_assign rfl) rfl rfl rfl (gj_nil ?_)))
    refine ej_th (cj_seq ?_)
    refine cj_regionG ?_
    refine gj_step (y_move rfl) rfl rfl rfl (gj_step (y_move rfl) rfl rfl rfl (gj_step (y_move rfl) rfl rfl rfl (gj_step (y_ixR (reads_sl) Try.underlying45 Try.sizeOf52 rfl rfl (⟨by omega, by omega⟩)) rfl rfl rfl (gj_step (y_ldW (reads_sl) Try.isAgg52 Try.sizeOf52 rfl (hx) (fun _ => rfl)) rfl rfl rfl (?_)))))
    refine gj_step (y_callV hen rfl rfl (fun w1 hp => hpp x (List.mem_of_getElem? hx) w1 hp.below)) rfl rfl rfl ?_
    refine gj_nil ?_
    refine ej_th ?_
    refine cj_cond rfl (fun h16 => ?_) (fun h16 => ?_)
    · have h16b := h16
      try simp only [sxb] at h16
      refine cj_seq ?_
      refine cj_regionG (gj_step (y_move rfl) rfl rfl rfl (gj_step (y_assign rfl) rfl rfl rfl (gj_nil ?_)))
      refine ej_th (cj_ret (ej_blk_ret (ej_then_ret (ej_then_ret (ej_blk_ret (ej_then_ret ?_))))))
      refine ej_ret1 rfl Try.results67 rfl (fun w' hp => ⟨?_, hp.below⟩)
      rw [← hsk, if_pos h16b]
    · have h16b := h16
      try simp only [sxb] at h16
      refine cj_skip (ej_blk (ej_th ?_))
      refine cj_regionG (gj_step (y_add rfl rfl (by omega)) rfl rfl rfl (gj_step (y_move rfl) rfl rfl rfl (gj_nil ?_)))
      exact ej_nx (k + 1) (by omega) ⟨by omega, by rw [← hsk, if_neg (by rw [h16b]; simp)]⟩ ⟨rfl, rfl, rfl, rfl, trivial⟩
  · have h9b := h9
    try simp only [sxb] at h9
    refine cj_exit (ej_then_exit (ej_then_exit (ej_blk_hit (ej_th (cj_seq ?_)))))
    refine cj_regionG (gj_step (y_assign rfl) rfl rfl rfl (gj_nil ?_))
    refine ej_th (cj_ret ?_)
    refine ej_ret1 rfl Try.results67 rfl (fun w' hp => ⟨?_, hp.below⟩)
    rw [← hsk, List.drop_of_length_le (by omega)]; rfl

theorem k_wh1 (c : CarryV) (day : Int) (bd : Nat) (w : World) (hbd : (ownB bd (cellsB 3 [.int .i64 day])).P w) : Calls Try.prog 68 #[.agg #[.int .i64 c.day, .int .i64 c.kind, .int .i64 c.bag, .int .i64 c.to_, .int .i64 c.by_, .int .i64 c.with_, .int .i64 c.mark, .int .i64 c.suits], .pointer (some ⟨bd, 0, none⟩)] w (fun e w' => e = .returned (.bool (decide (day < c.day))) ∧ Grow w w') := by
  refine enter_pure (args := [.agg #[.int .i64 c.day, .int .i64 c.kind, .int .i64 c.bag, .int .i64 c.to_, .int .i64 c.by_, .int .i64 c.with_, .int .i64 c.mark, .int .i64 c.suits], .pointer (some ⟨bd, 0, none⟩)]) [ownB bd (cellsB 3 [.int .i64 day])] Try.func68 rfl (by rw [Try.ntmps68]; simp) (fun f hf => by
    simp only [List.mem_cons, List.mem_nil_iff, or_false] at hf
    rcases hf with rfl
    · exact ⟨hbd, fun i hi => by have : i = bd := hi; subst this; exact (Array.getElem?_eq_some_iff.1 hbd).1⟩) ?_
  refine cj_seq (cj_region ?_)
  refine oj_box rfl rfl rfl (fun b2 => ?_)
  refine oj_step (y_assign rfl) rfl rfl rfl ?_
  refine oj_nil ?_
  refine ej_th (cj_seq ?_)
  refine cj_regionG (gj_step (y_fa0 fa52_0 rfl) rfl rfl rfl (gj_step (y_load1 Try.isAgg3 rfl rfl) rfl rfl rfl (gj_step (y_loadS1 Try.isAgg3 rfl rfl) rfl rfl rfl (gj_step (y_gtr rfl rfl) rfl rfl rfl (gj_step (y_assign rfl) rfl rfl rfl (gj_nil ?_))))))
  refine ej_th (cj_ret ?_)
  exact ej_ret1 rfl Try.results68 rfl (fun w' hp => ⟨rfl, hp.below⟩)

set_option maxHeartbeats 1600000 in
theorem k_Where (s : StrV) (l : List CarryV) (A : Option Addr) (cc : Nat) (bag day : Int) (w : World) (hs : StrRd w s) (hl : Rd w 8 encCa A l) (hcap : l.length ≤ cc) : Calls Try.prog 31 #[.agg #[.slice s.Ar s.rooms.length s.cr, .slice s.Ag s.gates.length s.cg, .slice s.As s.staff.length s.cs], .slice A l.length cc, .int .i64 bag, .int .i64 day] w (fun e w' => e = .returned (.tuple #[.int .i64 (whereR s.s l bag day), .int .i64 (whereE s.s l bag day)]) ∧ Grow w w') := by
  have hll := hl.len
  have hup := upto_le l day
  have hpl := playB_len (s := s.s) l
  have hpl2 := playB_len (s := s.s) (l.take (uptoN l day))
  refine enter_pure (args := [.agg #[.slice s.Ar s.rooms.length s.cr, .slice s.Ag s.gates.length s.cg, .slice s.As s.staff.length s.cs], .slice A l.length cc, .int .i64 bag, .int .i64 day]) [sl (fun b => b < w.heap.size) 3 encRo s.Ar s.rooms, sl (fun b => b < w.heap.size) 4 encGa s.Ag s.gates, sl (fun b => b < w.heap.size) 1 enInt s.As s.staff, sl (fun b => b < w.heap.size) 8 encCa A l] Try.func31 rfl (by rw [Try.ntmps31]; simp) (fun g hg => by simp at hg; rcases hg with rfl | rfl | rfl | rfl; exact ⟨hs.rooms, fun _ h => h⟩; exact ⟨hs.gates, fun _ h => h⟩; exact ⟨hs.staff, fun _ h => h⟩; exact ⟨hl, fun _ h => h⟩) ?_
  refine cj_seq (cj_region ?_)
  refine oj_box rfl rfl rfl (fun b4 => ?_)
  refine oj_box rfl rfl rfl (fun b7 => ?_)
  refine oj_step (y_assign rfl) rfl rfl rfl ?_
  refine oj_step (y_assign rfl) rfl rfl rfl ?_
  refine oj_nil ?_
  refine ej_th (cj_seq (cj_seq (cj_region ?_)))
  refine oj_step (y_loadN Try.isAgg26 Try.sizeOf26 rfl) rfl rfl rfl ?_
  refine oj_step (y_move rfl) rfl rfl rfl ?_
  refine oj_step (y_call Try.call30 rfl (fun w hp => k_Play s l A cc w (hs.mono hp.below) hp.rd)) rfl rfl rfl ?_
  refine oj_step (y_move rfl) rfl rfl rfl ?_
  refine oj_step (y_extract rfl rfl) rfl rfl rfl ?_
  refine oj_step (y_extract rfl rfl) rfl rfl rfl ?_
  refine oj_step (y_extract rfl rfl) rfl rfl rfl ?_
  refine oj_alloc Try.zeroValue48 rfl rfl (fun b10 => ?_)
  refine oj_store (vs := ((playB s.s l).flatMap encBa)) (n := 160) (hset := set_all _ _ (by rw [bf_len hpl]; rfl)) rfl rfl rfl (bf_one _) Try.sizeOf48 (bf_len hpl) ?_
  refine oj_step (y_assign rfl) rfl rfl rfl ?_
  refine oj_step (y_assign rfl) rfl rfl rfl ?_
  refine oj_nil ?_
  refine ej_th (cj_seq ?_)
  refine cj_regionG (gj_step (y_move rfl) rfl rfl rfl (gj_step (y_neq rfl rfl) rfl rfl rfl (gj_nil ?_)))
  refine ej_th ?_
  refine cj_cond rfl (fun h25 => ?_) (fun h25 => ?_)
  · have h25b := h25
    try simp only [sxb] at h25
    have hE : whereE s.s l bag day = playE s.s l := by rw [whereE, if_neg h25]
    have hR : whereR s.s l bag day = 0 := by rw [whereR, hE, if_neg h25]
    refine cj_seq ?_
    refine cj_regionG (gj_step (y_move rfl) rfl rfl rfl (gj_step (y_assign rfl) rfl rfl rfl (gj_step (y_assign rfl) rfl rfl rfl (gj_nil ?_))))
    refine ej_th (cj_ret (ej_then_ret ?_))
    exact ej_ret2 rfl Try.results31 rfl rfl (fun w' hp => ⟨by rw [hE, hR], hp.below⟩)
  · have h25b := h25
    try simp only [sxb] at h25
    have h0 : playE s.s l = 0 := by simpa using h25
    refine cj_skip (ej_th (cj_seq (cj_seq ?_)))
    refine cj_regionG ?_
    refine gj_step (y_move rfl) rfl rfl rfl (?_)
    refine gj_step (y_call Try.call46 rfl (fun w hp => k_within _ _ _ w)) rfl rfl rfl ?_
    refine gj_step (y_not rfl) rfl rfl rfl (gj_step (y_move rfl) rfl rfl rfl (?_))
    refine gj_g 3 30 33 rfl rfl rfl rfl (fun hg30 => gj_yes rfl rfl rfl (y_load1 Try.isAgg3 rfl rfl) rfl rfl (gj_yes rfl rfl rfl (y_call Try.call46 rfl (fun w hp => k_within _ _ _ w)) rfl rfl (gj_yes rfl rfl rfl (y_not rfl) rfl rfl (gj_nil rfl)))) ?_
    refine gj_step (y_or rfl rfl rfl) rfl rfl rfl (?_)
    refine gj_nil ?_
    refine ej_th ?_
    refine cj_cond rfl (fun h34 => ?_) (fun h34 => ?_)
    · have h34b := h34
      try simp only [sxb] at h34
      have hE : whereE s.s l bag day = 7 := by
        rw [whereE, if_pos h0, if_neg]
        intro h9
        rw [Bool.and_eq_true] at h9
        rw [h9.1, h9.2] at h34b; cases h34b
      have hR : whereR s.s l bag day = 0 := by rw [whereR, hE, if_neg (by decide)]
      refine cj_seq ?_
      refine cj_regionG (gj_step (y_assign rfl) rfl rfl rfl (gj_step (y_assign rfl) rfl rfl rfl (gj_nil ?_)))
      refine ej_th (cj_ret (ej_then_ret ?_))
      exact ej_ret2 rfl Try.results31 rfl rfl (fun w' hp => ⟨by rw [hE, hR], hp.below⟩)
    · have h34b := h34
      try simp only [sxb] at h34
      rw [Bool.or_eq_false_iff] at h34b
      have hb1 := not_f h34b.1
      have hb2 := not_f h34b.2
      have hbg := btw_t.1 hb1
      have hE : whereE s.s l bag day = 0 := by rw [whereE, if_pos h0, if_pos (by rw [hb1, hb2]; rfl)]
      have hR : whereR s.s l bag day = ((playB s.s (l.take (uptoN l day))).getD bag.toNat bag0).room := by rw [whereR, if_pos hE]
      refine cj_skip (ej_th (cj_seq ?_))
      refine cj_regionG ?_
      refine gj_step (y_move rfl) rfl rfl rfl (gj_step (y_makeFunc rfl rfl) rfl rfl rfl (?_))
      refine gj_step (y_call Try.call67 rfl (fun w hp => k_IndexC l A cc 68 #[.pointer (some ⟨b7, 0, none⟩)] (fun c => decide (day < c.day)) w hp.rd Try.call68 (fun x hx w1 hg => k_wh1 x day b7 w1 ((hp.grow hg).own1)))) rfl rfl rfl ?_
      refine gj_step (y_assign rfl) rfl rfl rfl (?_)
      refine gj_nil ?_
      refine ej_th ?_
      refine cj_cutic (X := Nat) [(1, _), (2, _), (4, _), (8, _), (9, _)] ⟨rfl, rfl, rfl, rfl, rfl, trivial⟩ (fun x => x = uptoN l day) (fun x => [(13, .int .i64 (x : Nat))]) ?_ ?_
      · refine cj_seq ?_
        refine cj_regionG (gj_step (y_move rfl) rfl rfl rfl (gj_step (y_lss rfl rfl) rfl rfl rfl (gj_nil ?_)))
        refine ej_th ?_
        refine cj_cond rfl (fun h39 => ?_) (fun h39 => ?_)
        · have h39b := h39
          try simp only [sxb] at h39
          refine cj_regionG (gj_step (y_move rfl) rfl rfl rfl (gj_step (y_lenA Try.underlying45 rfl) rfl rfl rfl (gj_step (y_assign rfl) rfl rfl rfl (gj_nil ?_))))
          exact ej_ct l.length (by rw [uptoN, if_pos (show afterI l day < 0 from h39)]) ⟨rfl, rfl, rfl, rfl, rfl, rfl, trivial⟩
        · have h39b := h39
          try simp only [sxb] at h39
          refine cj_skip ?_
          rw [show fidx (fun c : CarryV => decide (day < c.day)) l 0 = ((uptoN l day : Nat) : Int) by
            have h9 : ¬ afterI l day < 0 := by show ¬ fidx (fun c : CarryV => decide (day < c.day)) l 0 < 0; omega
            rw [uptoN, if_neg h9]; show afterI l day = _; omega]
          exact ej_ct (uptoN l day) rfl ⟨rfl, rfl, rfl, rfl, rfl, rfl, trivial⟩
      · rintro x rfl
        dsimp only [List.cons_append, List.nil_append]
        refine cj_seq ?_
        refine cj_plan 13 (by kernel_rfl) (by kernel_rfl) ?_
        refine pl_y 0 rfl (y_loadN Try.isAgg26 Try.sizeOf26 rfl) rfl rfl rfl rfl (by kernel_rfl) ?_
        refine pl_y 1 rfl (y_move rfl) rfl rfl rfl rfl (by kernel_rfl) ?_
        refine pl_y 2 rfl (y_move rfl) rfl rfl rfl rfl (by kernel_rfl) ?_
        refine pl_y 3 rfl (y_sliceTo (xs := l) (uptoN l day) Try.underlying45 Try.sizeOf52 rfl rfl hup hcap) rfl rfl rfl rfl (by kernel_rfl) ?_
        refine pl_y 4 rfl (y_call Try.call30 rfl (fun w hp => k_Play s (l.take (uptoN l day)) A cc w (hs.mono hp.below) (sl_take (hl.mono hp.below) _))) rfl rfl rfl rfl (by kernel_rfl) ?_
        refine pl_y 5 rfl (y_move rfl) rfl rfl rfl rfl (by kernel_rfl) ?_
        refine pl_y 6 rfl (y_extract rfl rfl) rfl rfl rfl rfl (by kernel_rfl) ?_
        refine pl_y 7 rfl (y_extract rfl rfl) rfl rfl rfl rfl (by kernel_rfl) ?_
        refine pl_y 8 rfl (y_extract rfl rfl) rfl rfl rfl rfl (by kernel_rfl) ?_
        refine pl_w1 9 (by kernel_rfl) rfl rfl (pl_fire rfl rfl rfl (by kernel_rfl) ?_)
        refine oj_alloc Try.zeroValue48 rfl rfl (fun b14 => ?_)
        refine oj_nil ?_
        refine ej_pl (lt_y (y_extract rfl rfl) rfl (lt_y (y_extract rfl rfl) rfl (lt_y (y_extract rfl rfl) rfl (lt_y (y_move rfl) rfl (lt_y (y_call Try.call30 rfl (fun w hp => k_Play s (l.take (uptoN l day)) A cc w (hs.mono hp.below) (sl_take (hl.mono hp.below) _))) rfl (lt_y (y_sliceTo (xs := l) (uptoN l day) Try.underlying45 Try.sizeOf52 rfl rfl hup hcap) rfl (lt_y (y_move rfl) rfl (lt_y (y_move rfl) rfl (lt_y (y_loadN Try.isAgg26 Try.sizeOf26 rfl) rfl (lt_nil)))))))))) ?_
        refine pl_w1 10 (by kernel_rfl) rfl rfl (pl_fire rfl rfl rfl (by kernel_rfl) ?_)
        refine oj_store (vs := ((playB s.s (l.take (uptoN l day))).flatMap encBa)) (n := 160) (hset := set_all _ _ (by rw [bf_len hpl2]; rfl)) rfl rfl rfl (bf_one _) Try.sizeOf48 (bf_len hpl2) ?_
        refine oj_nil ?_
        refine ej_pl (lt_y (y_extract rfl rfl) rfl (lt_y (y_extract rfl rfl) rfl (lt_w (by kernel_rfl) (lt_w (by kernel_rfl) (lt_w (by kernel_rfl) (lt_w (by kernel_rfl) (lt_w (by kernel_rfl) (lt_w (by kernel_rfl) (lt_w (by kernel_rfl) (lt_nil)))))))))) ?_
        refine pl_y 11 rfl (y_assign rfl) rfl rfl rfl rfl (by kernel_rfl) ?_
        refine pl_y 12 rfl (y_assign rfl) rfl rfl rfl rfl (by kernel_rfl) ?_
        refine pl_end (by kernel_rfl) ?_
        refine ej_th (cj_seq ?_)
        refine cj_regionG (gj_step (y_move rfl) rfl rfl rfl (gj_step (y_ixArr Try.underlying48 Try.sizeOf47 rfl rfl (by omega)) rfl rfl rfl (gj_step (y_fa0 fa47_0 rfl) rfl rfl rfl (gj_step (y_load1 Try.isAgg3 rfl (bf_room hpl2 hbg)) rfl rfl rfl (gj_step (y_assign rfl) rfl rfl rfl (gj_step (y_assign rfl) rfl rfl rfl (gj_nil ?_)))))))
        refine ej_th (cj_ret ?_)
        exact ej_ret2 rfl Try.results31 rfl rfl (fun w' hp => ⟨by rw [hE, hR], hp.below⟩)

end Go.Proofs.Ytomidcehahdmbaa
namespace Go.Proofs.Ytomidcehahdmbaa
open Go.Sx Go.RowKit Vm
set_option maxRecDepth 20000
set_option maxHeartbeats 3200000 in
theorem k_Suspects (s : StrV) (l : List CarryV) (A : Option Addr) (cc : Nat) (bag : Int) (w : World) (hs : StrRd w s) (hl : Rd w 8 encCa A l) (hcap : l.length ≤ cc) : Calls Try.prog 34 #[.agg #[.slice s.Ar s.rooms.length s.cr, .slice s.Ag s.gates.length s.cg, .slice s.As s.staff.length s.cs], .slice A l.length cc, .int .i64 bag] w (fun e w' => ∃ A c, e = .returned (.tuple #[.slice A (intsL (suspV s.s l bag)).length c, .int .i64 (suspE s.s l bag)]) ∧ Grow w w' ∧ Res w w' 1 enInt A (intsL (suspV s.s l bag))) := by
  have hll := hl.len
  have hpl := playB_len (s := s.s) l
  refine enter_pure (args := [.agg #[.slice s.Ar s.rooms.length s.cr, .slice s.Ag s.gates.length s.cg, .slice s.As s.staff.length s.cs], .slice A l.length cc, .int .i64 bag]) [sl (fun b => b < w.heap.size) 3 encRo s.Ar s.rooms, sl (fun b => b < w.heap.size) 4 encGa s.Ag s.gates, sl (fun b => b < w.heap.size) 1 enInt s.As s.staff, sl (fun b => b < w.heap.size) 8 encCa A l] Try.func34 rfl (by rw [Try.ntmps34]; simp) (fun g hg => by simp at hg; rcases hg with rfl | rfl | rfl | rfl; exact ⟨hs.rooms, fun _ h => h⟩; exact ⟨hs.gates, fun _ h => h⟩; exact ⟨hs.staff, fun _ h => h⟩; exact ⟨hl, fun _ h => h⟩) ?_
  refine cj_seq (cj_region ?_)
  refine oj_box rfl rfl rfl (fun b3 => ?_)
  refine oj_step (y_assign rfl) rfl rfl rfl ?_
  refine oj_step (y_assign rfl) rfl rfl rfl ?_
  refine oj_nil ?_
  refine ej_th (cj_seq (cj_region ?_))
  refine oj_step (y_loadN Try.isAgg26 Try.sizeOf26 rfl) rfl rfl rfl ?_
  refine oj_step (y_move rfl) rfl rfl rfl ?_
  refine oj_step (y_call Try.call30 rfl (fun w hp => k_Play s l A cc w (hs.mono hp.below) hp.rd)) rfl rfl rfl ?_
  refine oj_step (y_move rfl) rfl rfl rfl ?_
  refine oj_step (y_extract rfl rfl) rfl rfl rfl ?_
  refine oj_step (y_extract rfl rfl) rfl rfl rfl ?_
  refine oj_step (y_extract rfl rfl) rfl rfl rfl ?_
  refine oj_alloc Try.zeroValue48 rfl rfl (fun b8 => ?_)
  refine oj_store (vs := ((playB s.s l).flatMap encBa)) (n := 160) (hset := set_all _ _ (by rw [bf_len hpl]; rfl)) rfl rfl rfl (bf_one _) Try.sizeOf48 (bf_len hpl) ?_
  refine oj_step (y_assign rfl) rfl rfl rfl ?_
  refine oj_step (y_assign rfl) rfl rfl rfl ?_
  refine oj_nil ?_
  refine ej_th (cj_seq (cj_seq ?_))
  refine cj_regionG (gj_step (y_move rfl) rfl rfl rfl (gj_step (y_neq rfl rfl) rfl rfl rfl (gj_nil ?_)))
  refine ej_th ?_
  refine cj_cond rfl (fun h28 => ?_) (fun h28 => ?_)
  · have h28b := h28
    try simp only [sxb] at h28
    have hE : suspE s.s l bag = playE s.s l := by rw [suspE, if_neg h28]
    have hV : suspV s.s l bag = [] := by rw [suspV, hE, if_neg h28]
    refine cj_seq ?_
    refine cj_regionG (gj_step (y_move rfl) rfl rfl rfl (gj_step (y_assign rfl) rfl rfl rfl (gj_step (y_assign rfl) rfl rfl rfl (gj_nil ?_))))
    refine ej_th (cj_ret (ej_then_ret ?_))
    exact ej_ret2 rfl Try.results34 rfl rfl (fun w' hp => ⟨none, 0, by rw [hV, hE]; rfl, hp.below, by rw [hV]; exact Res.nil⟩)
  · have h28b := h28
    try simp only [sxb] at h28
    have h0 : playE s.s l = 0 := by simpa using h28
    obtain ⟨hb, hlb, hl64⟩ := play_0 h0
    refine cj_skip (ej_th (cj_seq (cj_seq ?_)))
    refine cj_regionG ?_
    refine gj_step (y_move rfl) rfl rfl rfl (?_)
    refine gj_step (y_call Try.call46 rfl (fun w hp => k_within _ _ _ w)) rfl rfl rfl ?_
    refine gj_step (y_not rfl) rfl rfl rfl (?_)
    refine gj_nil ?_
    refine ej_th ?_
    refine cj_cond rfl (fun h32 => ?_) (fun h32 => ?_)
    · have h32b := h32
      try simp only [sxb] at h32
      have hE : suspE s.s l bag = 7 := by rw [suspE, if_pos h0, if_neg (by rw [not_t h32b]; simp)]
      have hV : suspV s.s l bag = [] := by rw [suspV, hE]; rfl
      refine cj_seq ?_
      refine cj_regionG (gj_step (y_assign rfl) rfl rfl rfl (gj_step (y_assign rfl) rfl rfl rfl (gj_nil ?_)))
      refine ej_th (cj_ret (ej_then_ret ?_))
      exact ej_ret2 rfl Try.results34 rfl rfl (fun w' hp => ⟨none, 0, by rw [hV, hE]; rfl, hp.below, by rw [hV]; exact Res.nil⟩)
    · have h32b := h32
      try simp only [sxb] at h32
      have hb1 := not_f h32b
      have hbg := btw_t.1 hb1
      refine cj_skip (ej_th (cj_seq (cj_seq ?_)))
      refine cj_regionG (gj_step (y_loadN (hv := tk_all _ (bf_len hpl)) Try.isAgg48 Try.sizeOf48 rfl) rfl rfl rfl (gj_step (y_buildA0 (cs := ((bags0).flatMap encBa)) Try.underlying48 Try.sizeOf47 Try.zeroValue48 rfl) rfl rfl rfl (gj_step (y_bin rfl rfl (fun x y w => eq_bags hpl rfl x y w)) rfl rfl rfl (gj_step (y_move rfl) rfl rfl rfl (gj_g 5 36 41 rfl rfl rfl rfl (fun hg36 => gj_yes rfl rfl rfl (y_move rfl) rfl rfl (gj_yes rfl rfl rfl (y_ixArr Try.underlying48 Try.sizeOf47 rfl rfl (by omega)) rfl rfl (gj_yes rfl rfl rfl (y_fa0 fa47_0 rfl) rfl rfl (gj_yes rfl rfl rfl (y_load1 Try.isAgg3 rfl (bf_room hpl hbg)) rfl rfl (gj_yes rfl rfl rfl (y_eql rfl rfl) rfl rfl (gj_nil rfl)))))) (gj_step (y_or rfl rfl rfl) rfl rfl rfl (gj_nil ?_)))))))
      refine ej_th ?_
      refine cj_cond rfl (fun h42 => ?_) (fun h42 => ?_)
      · have h42b := h42
        try simp only [sxb] at h42
        have hr0 : ((playB s.s l).getD bag.toNat bag0).room = 0 := by
          rcases (Bool.or_eq_true _ _).mp h42b with h | h
          · rw [of_decide_eq_true h]
            have h9 : bag.toNat < 32 := by omega
            rw [List.getD_eq_getElem?_getD, List.getElem?_replicate, if_pos h9]; rfl
          · simpa using h
        have hE : suspE s.s l bag = 44 := by rw [suspE, if_pos h0, if_pos hb1, if_pos hr0]
        have hV : suspV s.s l bag = [] := by rw [suspV, hE]; rfl
        refine cj_seq ?_
        refine cj_regionG (gj_step (y_assign rfl) rfl rfl rfl (gj_step (y_assign rfl) rfl rfl rfl (gj_nil ?_)))
        refine ej_th (cj_ret (ej_then_ret ?_))
        exact ej_ret2 rfl Try.results34 rfl rfl (fun w' hp => ⟨none, 0, by rw [hV, hE]; rfl, hp.below, by rw [hV]; exact Res.nil⟩)
      · have h42b := h42
        try simp only [sxb] at h42
        rw [Bool.or_eq_false_iff] at h42b
        have hr0 : ¬ ((playB s.s l).getD bag.toNat bag0).room = 0 := by have h9 := h42b.2; simpa using h9
        have hE : suspE s.s l bag = 0 := by rw [suspE, if_pos h0, if_pos hb1, if_neg hr0]
        have hV : suspV s.s l bag = minL ((sinceL s.s l bag l.length).flatMap fun r => groupsV s.s r.toNat) := by rw [suspV, if_pos hE]
        refine cj_skip (ej_th (cj_seq ?_))
        refine cj_regionG (gj_step (y_assign rfl) rfl rfl rfl (gj_nil ?_))
        refine ej_th (cj_seq (cj_seq ?_))
        refine cj_regionG (gj_step (y_move rfl) rfl rfl rfl (gj_step (y_lenA Try.underlying45 rfl) rfl rfl rfl (gj_step (y_move rfl) rfl rfl rfl (gj_nil ?_))))
        refine ej_th (cj_block ?_)
        refine cj_ownNil 3 1 enInt ?_
        refine cj_lpi (X := Nat × Option Addr × Nat × List Int) [(1, _), (2, _), (3, _), (6, _), (7, _), (43, _), (44, _)] (fun ⟨k, A1, c1, xs⟩ => k ≤ l.length ∧ xs = sinceL s.s l bag k) (fun ⟨k, A1, c1, xs⟩ => [(11, .slice A1 xs.length c1), (45, .int .i64 (k : Nat))]) (fun ⟨k, A1, c1, xs⟩ => [ow 3 1 enInt A1 c1 xs, ownB b3 (cellsB 26 [.slice s.Ar s.rooms.length s.cr, .slice s.Ag s.gates.length s.cg, .slice s.As s.staff.length s.cs])]) (fun ⟨k, A1, c1, xs⟩ => [sl (fun b => b < w.heap.size) 3 encRo s.Ar s.rooms, sl (fun b => b < w.heap.size) 4 encGa s.Ag s.gates, sl (fun b => b < w.heap.size) 1 enInt s.As s.staff, sl (fun b => b < w.heap.size) 8 encCa A l]) (fun ⟨k, A1, c1, xs⟩ => l.length - k) (0, none, 0, []) (⟨Nat.zero_le _, rfl⟩) ⟨rfl, rfl, rfl, rfl, rfl, rfl, rfl, rfl, rfl, trivial⟩ ?_
        rintro ⟨k, A1, c1, xs⟩ ⟨hk, hxs⟩
        dsimp only [List.cons_append, List.nil_append]
        refine cj_seq ?_
        refine cj_regionG (gj_step (y_lss rfl rfl) rfl rfl rfl (gj_nil ?_))
        refine ej_th (cj_seq ?_)
        refine cj_cond rfl (fun h46 => ?_) (fun h46 => ?_)
        · have h46b := h46
          try simp only [sxb] at h46
          obtain ⟨c, hck⟩ : ∃ c, l[k]? = some c := ⟨_, List.getElem?_eq_getElem (by omega)⟩
          have hpl2 := playB_len (s := s.s) (l.take (k + 1))
          have hsb := since_bd (s := s.s) (l := l) hbg k
          refine cj_skip (ej_th (cj_seq (cj_block (cj_seq (cj_region ?_)))))
          refine oj_step (y_move rfl) rfl rfl rfl ?_
          refine oj_step (y_ixR (reads_sl) Try.underlying45 Try.sizeOf52 rfl rfl (⟨by omega, by omega⟩)) rfl rfl rfl ?_
          refine oj_step (y_ldW (reads_sl) Try.isAgg52 Try.sizeOf52 rfl (hck) (fun _ => rfl)) rfl rfl rfl ?_
          refine oj_alloc Try.zeroValue52 rfl rfl (fun b13 => ?_)
          refine oj_step (y_assign rfl) rfl rfl rfl ?_
          refine oj_store rfl rfl rfl rfl Try.sizeOf52 rfl ?_
          refine oj_nil ?_
          refine ej_th (cj_seq (cj_seq ?_))
          refine cj_regionG (gj_step (y_fa fa52_2 rfl) rfl rfl rfl (gj_step (y_load1 Try.isAgg3 rfl rfl) rfl rfl rfl (gj_step (y_move rfl) rfl rfl rfl (gj_step (y_neq rfl rfl) rfl rfl rfl (gj_nil ?_)))))
          refine ej_th ?_
          refine cj_cond rfl (fun h53 => ?_) (fun h53 => ?_)
          · have h53b := h53
            try simp only [sxb] at h53
            have hsn := since_no (s := s.s) hck h53
            refine cj_exit (ej_then_exit (ej_blk_hit (ej_th ?_)))
            refine cj_regionG (gj_step (y_add rfl rfl (by omega)) rfl rfl rfl (gj_step (y_move rfl) rfl rfl rfl (gj_nil ?_)))
            exact ej_nx (k + 1, A1, c1, xs) (by first | omega | (simp only; omega)) ⟨by first | omega | (simp only; omega), by rw [hsn]; exact hxs⟩ ⟨rfl, rfl, rfl, rfl, rfl, rfl, rfl, rfl, rfl, trivial⟩
          · have h53b := h53
            try simp only [sxb] at h53
            have hcb : c.bag = bag := by simpa using h53
            have hsn := since_yes (s := s.s) hck hcb
            refine cj_skip (ej_th (cj_seq ?_))
            refine cj_plan 14 (by kernel_rfl) (by kernel_rfl) ?_
            refine pl_y 0 rfl (y_loadN Try.isAgg26 Try.sizeOf26 rfl) rfl rfl rfl rfl (by kernel_rfl) ?_
            refine pl_y 1 rfl (y_move rfl) rfl rfl rfl rfl (by kernel_rfl) ?_
            refine pl_y 2 rfl (y_move rfl) rfl rfl rfl rfl (by kernel_rfl) ?_
            refine pl_y 3 rfl (y_add rfl rfl (by omega)) rfl rfl rfl rfl (by kernel_rfl) ?_
            refine pl_y 4 rfl (y_sliceTo (xs := l) (k + 1) Try.underlying45 Try.sizeOf52 rfl rfl (by omega) hcap) rfl rfl rfl rfl (by kernel_rfl) ?_
            refine pl_y 5 rfl (y_call Try.call30 rfl (fun w hp => k_Play s (l.take (k + 1)) A cc w (hs.mono hp.below) (sl_take (hl.mono hp.below) _))) rfl rfl rfl rfl (by kernel_rfl) ?_
            refine pl_y 6 rfl (y_move rfl) rfl rfl rfl rfl (by kernel_rfl) ?_
            refine pl_y 7 rfl (y_extract rfl rfl) rfl rfl rfl rfl (by kernel_rfl) ?_
            refine pl_y 8 rfl (y_extract rfl rfl) rfl rfl rfl rfl (by kernel_rfl) ?_
            refine pl_y 9 rfl (y_extract rfl rfl) rfl rfl rfl rfl (by kernel_rfl) ?_
            refine pl_w1 10 (by kernel_rfl) rfl rfl (pl_fire rfl rfl rfl (by kernel_rfl) ?_)
            refine oj_alloc Try.zeroValue48 rfl rfl (fun b14 => ?_)
            refine oj_nil ?_
            refine ej_pl (lt_y (y_extract rfl rfl) rfl (lt_y (y_extract rfl rfl) rfl (lt_y (y_extract rfl rfl) rfl (lt_y (y_move rfl) rfl (lt_y (y_call Try.call30 rfl (fun w hp => k_Play s (l.take (k + 1)) A cc w (hs.mono hp.below) (sl_take (hl.mono hp.below) _))) rfl (lt_y (y_sliceTo (xs := l) (k + 1) Try.underlying45 Try.sizeOf52 rfl rfl (by omega) hcap) rfl (lt_y (y_add rfl rfl (by omega)) rfl (lt_y (y_move rfl) rfl (lt_y (y_move rfl) rfl (lt_y (y_loadN Try.isAgg26 Try.sizeOf26 rfl) rfl (lt_nil))))))))))) ?_
            refine pl_w1 11 (by kernel_rfl) rfl rfl (pl_fire rfl rfl rfl (by kernel_rfl) ?_)
            refine oj_store (vs := ((playB s.s (l.take (k + 1))).flatMap encBa)) (n := 160) (hset := set_all _ _ (by rw [bf_len hpl2]; rfl)) rfl rfl rfl (bf_one _) Try.sizeOf48 (bf_len hpl2) ?_
            refine oj_nil ?_
            refine ej_pl (lt_y (y_extract rfl rfl) rfl (lt_y (y_extract rfl rfl) rfl (lt_w (by kernel_rfl) (lt_w (by kernel_rfl) (lt_w (by kernel_rfl) (lt_w (by kernel_rfl) (lt_w (by kernel_rfl) (lt_w (by kernel_rfl) (lt_w (by kernel_rfl) (lt_w (by kernel_rfl) (lt_nil))))))))))) ?_
            refine pl_y 12 rfl (y_assign rfl) rfl rfl rfl rfl (by kernel_rfl) ?_
            refine pl_y 13 rfl (y_assign rfl) rfl rfl rfl rfl (by kernel_rfl) ?_
            refine pl_end (by kernel_rfl) ?_
            refine ej_th ?_
            refine cj_cuti (X := Option Addr × Nat × List Int) [(45, _), (1, _), (2, _), (3, _), (6, _), (7, _), (43, _), (44, _), (14, _)] ⟨rfl, rfl, rfl, rfl, rfl, rfl, rfl, rfl, rfl, trivial⟩ (fun ⟨A2, c2, zs⟩ => zs = if c.kind = 2 then xs else []) (fun ⟨A2, c2, zs⟩ => [(11, .slice A2 zs.length c2)]) (fun ⟨A2, c2, zs⟩ => [ownB b14 (cellsB 48 ((playB s.s (l.take (k + 1))).flatMap encBa)), ow 3 1 enInt A2 c2 zs, ownB b3 (cellsB 26 [.slice s.Ar s.rooms.length s.cr, .slice s.Ag s.gates.length s.cg, .slice s.As s.staff.length s.cs])]) (fun ⟨A2, c2, zs⟩ => [sl (fun b => b < w.heap.size) 3 encRo s.Ar s.rooms, sl (fun b => b < w.heap.size) 4 encGa s.Ag s.gates, sl (fun b => b < w.heap.size) 1 enInt s.As s.staff, sl (fun b => b < w.heap.size) 8 encCa A l]) ?_ ?_
            · refine cj_seq ?_
              refine cj_regionG (gj_step (y_fa fa52_1 rfl) rfl rfl rfl (gj_step (y_load1 Try.isAgg3 rfl rfl) rfl rfl rfl (gj_step (y_neq rfl rfl) rfl rfl rfl (gj_nil ?_))))
              refine ej_th ?_
              refine cj_cond rfl (fun h66 => ?_) (fun h66 => ?_)
              · have h66b := h66
                try simp only [sxb] at h66
                refine cj_ownNil 3 1 enInt ?_
                refine cj_regionG (gj_step (y_assign rfl) rfl rfl rfl (gj_nil ?_))
                refine ej_takes [ownB b14 (cellsB 48 ((playB s.s (l.take (k + 1))).flatMap encBa)), ow 3 1 enInt none 0 ([] : List Int), ownB b3 (cellsB 26 [.slice s.Ar s.rooms.length s.cr, .slice s.Ag s.gates.length s.cg, .slice s.As s.staff.length s.cs])] ?_
                exact ej_ct (none, 0, []) (by rw [if_neg h66]) ⟨rfl, rfl, rfl, rfl, rfl, rfl, rfl, rfl, rfl, rfl, trivial⟩
              · have h66b := h66
                try simp only [sxb] at h66
                refine cj_skip ?_
                exact ej_ct (A1, c1, xs) (by rw [if_pos h66]) ⟨rfl, rfl, rfl, rfl, rfl, rfl, rfl, rfl, rfl, rfl, trivial⟩
            · rintro ⟨A2, c2, zs⟩ hzs
              dsimp only [List.cons_append, List.nil_append]
              have hzl : zs.length ≤ 64 := by
                rw [hzs]
                split
                · rw [hxs]; omega
                · simp
              refine cj_region ?_
              refine oj_step (y_move rfl) rfl rfl rfl ?_
              refine oj_step (y_move rfl) rfl rfl rfl ?_
              refine oj_step (y_ixArr Try.underlying48 Try.sizeOf47 rfl rfl (by omega)) rfl rfl rfl ?_
              refine oj_step (y_fa0 fa47_0 rfl) rfl rfl rfl ?_
              refine oj_step (y_load1 Try.isAgg3 rfl (bf_room hpl2 hbg)) rfl rfl rfl ?_
              refine oj_buildSlice (cs := [.int .i64 ((playB s.s (l.take (k + 1))).getD bag.toNat bag0).room]) [.int .i64 0] Try.underlying24 Try.sizeOf3 Try.zeroValue3 rfl rfl (by kernel_rfl) (by kernel_rfl) rfl (fun b72 => ?_)
              refine oj_append  el24 (fun _ => rfl) enInt_one rfl rfl rfl (reads_lit [((playB s.s (l.take (k + 1))).getD bag.toNat bag0).room] (fun _ => rfl) rfl) (by unfold maxLen; simp only [List.length_append, List.length_cons, List.length_nil]; omega) (by simp only [List.length_append, List.length_cons, List.length_nil]; omega) rfl (fun A73 c73 => ?_)
              refine oj_step (y_assign rfl) rfl rfl rfl ?_
              refine oj_nil ?_
              refine ej_blk (ej_th ?_)
              refine cj_regionG (gj_step (y_add rfl rfl (by omega)) rfl rfl rfl (gj_step (y_move rfl) rfl rfl rfl (gj_nil ?_)))
              exact ej_nx (k + 1, A73, c73, zs ++ [((playB s.s (l.take (k + 1))).getD bag.toNat bag0).room]) (by first | omega | (simp only; omega)) ⟨by first | omega | (simp only; omega), by rw [hsn, hzs, hxs]⟩ ⟨rfl, rfl, rfl, rfl, rfl, rfl, rfl, rfl, rfl, trivial⟩
        · have h46b := h46
          try simp only [sxb] at h46
          have hke : k = l.length := by omega
          subst hke
          have hsb := since_bd (s := s.s) (l := l) hbg l.length
          refine cj_exit (ej_then_exit (ej_then_exit (ej_blk_hit (ej_th (cj_seq ?_)))))
          refine cj_regionG (gj_step (y_assign rfl) rfl rfl rfl (gj_nil ?_))
          refine ej_th (cj_seq (cj_seq ?_))
          refine cj_regionG (gj_step (y_move rfl) rfl rfl rfl (gj_step (y_lenA Try.underlying24 rfl) rfl rfl rfl (gj_step (y_move rfl) rfl rfl rfl (gj_nil ?_))))
          refine ej_th (cj_block ?_)
          have hxl : xs.length ≤ 64 := by rw [hxs]; omega
          refine cj_ownNil 3 1 enInt ?_
          refine cj_lpi (X := Nat × Option Addr × Nat × List Int) [(3, _), (6, _), (7, _), (75, _), (76, _)] (fun ⟨j, A3, c3, ys⟩ => j ≤ xs.length ∧ ys = intsL ((xs.take j).flatMap fun r => groupsV s.s r.toNat) ∧ ys.length ≤ 64 * j) (fun ⟨j, A3, c3, ys⟩ => [(17, .slice A3 ys.length c3), (77, .int .i64 (j : Nat))]) (fun ⟨j, A3, c3, ys⟩ => [ow 3 1 enInt A3 c3 ys, ow 3 1 enInt A1 c1 xs, ownB b3 (cellsB 26 [.slice s.Ar s.rooms.length s.cr, .slice s.Ag s.gates.length s.cg, .slice s.As s.staff.length s.cs])]) (fun ⟨j, A3, c3, ys⟩ => [sl (fun b => b < w.heap.size) 3 encRo s.Ar s.rooms, sl (fun b => b < w.heap.size) 4 encGa s.Ag s.gates, sl (fun b => b < w.heap.size) 1 enInt s.As s.staff, sl (fun b => b < w.heap.size) 8 encCa A l]) (fun ⟨j, A3, c3, ys⟩ => xs.length - j) (0, none, 0, []) (⟨Nat.zero_le _, rfl, Nat.le_refl _⟩) ⟨rfl, rfl, rfl, rfl, rfl, rfl, rfl, trivial⟩ ?_
          rintro ⟨j, A3, c3, ys⟩ ⟨hj, hys, hyl⟩
          dsimp only [List.cons_append, List.nil_append]
          refine cj_seq ?_
          refine cj_regionG (gj_step (y_lss rfl rfl) rfl rfl rfl (gj_nil ?_))
          refine ej_th (cj_seq ?_)
          refine cj_cond rfl (fun h78 => ?_) (fun h78 => ?_)
          · have h78b := h78
            try simp only [sxb] at h78
            obtain ⟨r, hr⟩ : ∃ r, xs[j]? = some r := ⟨_, List.getElem?_eq_getElem (by omega)⟩
            have hrb := hsb.1 r (by rw [← hxs]; exact List.mem_of_getElem? hr)
            have hgl : (intsL (groupsV s.s r.toNat)).length ≤ 64 := by rw [enC]; exact minL_len _
            refine cj_skip (ej_th (cj_seq (cj_block (cj_seq ?_))))
            refine cj_regionG (gj_step (y_ixR (reads_owI) Try.underlying24 Try.sizeOf3 rfl rfl (⟨by omega, by omega⟩)) rfl rfl rfl (gj_step (y_ld0 (reads_owI) Try.isAgg3 rfl (hr) rfl) rfl rfl rfl (gj_step (y_assign rfl) rfl rfl rfl (gj_nil ?_))))
            refine ej_th (cj_region ?_)
            refine oj_step (y_move rfl) rfl rfl rfl ?_
            refine oj_step (y_loadN Try.isAgg26 Try.sizeOf26 rfl) rfl rfl rfl ?_
            refine oj_step (y_move rfl) rfl rfl rfl ?_
            refine oj_callS (fun A c => .slice A (intsL (groupsV s.s r.toNat)).length c) 1 enInt (intsL (groupsV s.s r.toNat)) Try.call58 rfl (fun w hp => by
              have h9 := k_groups s r.toNat w (hs.mono hp.below) hb (by omega)
              rw [show ((r.toNat : Nat) : Int) = r by omega] at h9
              exact h9) rfl (fun A84 c84 fp84 hfp84 => ?_)
            refine oj_append  el24 (fun _ => rfl) enInt_one rfl rfl rfl (reads_sl) (by unfold maxLen; omega) (by omega) rfl (fun A85 c85 => ?_)
            refine oj_step (y_assign rfl) rfl rfl rfl ?_
            refine oj_nil ?_
            refine ej_blk (ej_th ?_)
            refine cj_regionG (gj_step (y_add rfl rfl (by omega)) rfl rfl rfl (gj_step (y_move rfl) rfl rfl rfl (gj_nil ?_)))
            exact ej_nx (j + 1, A85, c85, ys ++ intsL (groupsV s.s r.toNat)) (by first | omega | (simp only; omega)) ⟨by first | omega | (simp only; omega), by
              dsimp only
              rw [hys, List.take_add_one, hr, Option.toList_some, List.flatMap_append, ints_app]; simp, by simp only [List.length_append]; omega⟩ ⟨rfl, rfl, rfl, rfl, rfl, rfl, rfl, trivial⟩
          · have h78b := h78
            try simp only [sxb] at h78
            have hje : j = xs.length := by omega
            subst hje
            rw [List.take_length, hxs] at hys
            have hysl : ys.length = (intsL ((sinceL s.s l bag l.length).flatMap fun r => groupsV s.s r.toNat)).length := by rw [hys]
            have hxl : xs.length ≤ 64 := by rw [hxs]; omega
            refine cj_exit (ej_then_exit (ej_then_exit (ej_blk_hit (ej_th (cj_seq (cj_region ?_))))))
            refine oj_step (y_move rfl) rfl rfl rfl ?_
            refine oj_callS (fun A c => .slice A (intsL (minL ((sinceL s.s l bag l.length).flatMap fun r => groupsV s.s r.toNat))).length c) 1 enInt (intsL (minL ((sinceL s.s l bag l.length).flatMap fun r => groupsV s.s r.toNat))) Try.call61 rfl (fun w hp => by
              have h9 := k_leastSets ((sinceL s.s l bag l.length).flatMap fun r => groupsV s.s r.toNat) A3 c3 w (by rw [← hys]; exact hp.rdO (fun _ => rfl) (by unfold maxLen; omega)) (fun x hx => by
                obtain ⟨r, _, hr⟩ := List.mem_flatMap.1 hx
                exact minL_lt hr) (by rw [enC] at hysl; omega)
              rw [show (intsL ((sinceL s.s l bag l.length).flatMap fun r => groupsV s.s r.toNat)).length = ys.length by rw [← hys]] at h9
              exact h9) rfl (fun A88 c88 fp88 hfp88 => ?_)
            refine oj_step (y_assign rfl) rfl rfl rfl ?_
            refine oj_step (y_assign rfl) rfl rfl rfl ?_
            refine oj_nil ?_
            refine ej_th (cj_ret ?_)
            exact ej_ret2 rfl Try.results34 rfl rfl (fun w' hp => ⟨A88, c88, by rw [hV, hE], hp.below, by rw [hV]; exact hp.resS (fun b hb => hfp88 b hb)⟩)

end Go.Proofs.Ytomidcehahdmbaa
namespace Go.Proofs.Ytomidcehahdmbaa
open Go.Sx Go.RowKit Vm
set_option maxRecDepth 20000
theorem k_Same (a b : List Int) (Aa Ab : Option Addr) (ca cb : Nat) (w : World) (ha : Rd w 1 enInt Aa a) (hb : Rd w 1 enInt Ab b) : Calls Try.prog 22 #[.slice Aa a.length ca, .slice Ab b.length cb] w (fun e w' => e = .returned (.bool (decide (a = b))) ∧ Grow w w') := by
  have hla := ha.len
  have hlb := hb.len
  refine enter_pure (args := [.slice Aa a.length ca, .slice Ab b.length cb]) [sl (fun b => b < w.heap.size) 1 enInt Aa a, sl (fun b => b < w.heap.size) 1 enInt Ab b] Try.func22 rfl (by rw [Try.ntmps22]; simp) (fun g hg => by simp at hg; rcases hg with rfl | rfl; exact ⟨ha, fun _ h => h⟩; exact ⟨hb, fun _ h => h⟩) ?_
  refine cj_seq ?_
  refine cj_regionG (gj_step (y_assign rfl) rfl rfl rfl (gj_nil ?_))
  refine ej_th (cj_seq ?_)
  refine cj_regionG (gj_step (y_move rfl) rfl rfl rfl (gj_step (y_lenA Try.underlying24 rfl) rfl rfl rfl (gj_step (y_move rfl) rfl rfl rfl (gj_step (y_lenA Try.underlying24 rfl) rfl rfl rfl (gj_step (y_eql rfl rfl) rfl rfl rfl (gj_step (y_assign rfl) rfl rfl rfl (gj_nil ?_)))))))
  refine ej_th (cj_seq (cj_seq ?_))
  refine cj_regionG (gj_step (y_assign rfl) rfl rfl rfl (gj_nil ?_))
  refine ej_th (cj_block ?_)
  refine cj_lpic (X := Nat × Bool) [(0, _), (1, _), (4, _)] (fun ⟨k, ok⟩ => k ≤ a.length ∧ (ok = true → a.length = b.length) ∧ (ok && decide (a.drop k = b.drop k)) = decide (a = b)) (fun ⟨k, ok⟩ => [(5, .bool ok), (6, .int .i64 (k : Nat))]) (fun ⟨k, ok⟩ => a.length - k) (0, (a.length : Int) == (b.length : Int)) (⟨Nat.zero_le _, fun h => len_of h, same_start a b⟩) ⟨rfl, rfl, rfl, rfl, rfl, trivial⟩ ?_
  rintro ⟨k, ok⟩ ⟨hk, hle, hsk⟩
  dsimp only [List.cons_append, List.nil_append]
  refine cj_seq (cj_seq ?_)
  refine cj_regionG (gj_step (y_move rfl) rfl rfl rfl (gj_step (y_move rfl) rfl rfl rfl (gj_g 4 13 17 rfl rfl rfl rfl (fun hg13 => gj_yes rfl rfl rfl (y_move rfl) rfl rfl (gj_yes rfl rfl rfl (y_move rfl) rfl rfl (gj_yes rfl rfl rfl (y_lenA Try.underlying24 rfl) rfl rfl (gj_yes rfl rfl rfl (y_lss rfl rfl) rfl rfl (gj_nil rfl))))) (gj_step (y_and rfl rfl rfl) rfl rfl rfl (gj_nil ?_)))))
  refine ej_th ?_
  refine cj_cond rfl (fun h18 => ?_) (fun h18 => ?_)
  · have h18b := h18
    try simp only [sxb] at h18
    rw [Bool.and_eq_true, decide_eq_true_eq] at h18b
    have hok := h18b.1
    have hl2 := hle hok
    have hk2 := h18b.2
    obtain ⟨x, hx⟩ : ∃ x, a[k]? = some x := ⟨_, List.getElem?_eq_getElem (by omega)⟩
    obtain ⟨y, hy⟩ : ∃ y, b[k]? = some y := ⟨_, List.getElem?_eq_getElem (by omega)⟩
    rw [eq_drop a b k x y hx hy, hok, Bool.true_and] at hsk
    refine cj_skip (ej_th (cj_seq (cj_block ?_)))
    refine cj_draw (by kernel_rfl) (by kernel_rfl) (gj_step (y_move rfl) rfl rfl rfl (gj_step (y_move rfl) rfl rfl rfl (gj_step (y_ixR (reads_sl) Try.underlying24 Try.sizeOf3 rfl rfl (⟨by omega, by omega⟩)) rfl rfl rfl (gj_step (y_ld0 (reads_sl) Try.isAgg3 rfl (hx) rfl) rfl rfl rfl (gj_step (y_move rfl) rfl rfl rfl (gj_step (y_move rfl) rfl rfl rfl (gj_step (y_ixR (reads_sl) Try.underlying24 Try.sizeOf3 rfl rfl (⟨by omega, by omega⟩)) rfl rfl rfl (gj_step (y_ld0 (reads_sl) Try.isAgg3 rfl (hy) rfl) rfl rfl rfl (gj_step (y_eql rfl rfl) rfl rfl rfl (gj_step (y_assign rfl) rfl rfl rfl (gj_nil ?_)))))))))))
    refine ej_blk (ej_th ?_)
    refine cj_regionG (gj_step (y_move rfl) rfl rfl rfl (gj_step (y_add rfl rfl (by omega)) rfl rfl rfl (gj_step (y_assign rfl) rfl rfl rfl (gj_nil ?_))))
    exact ej_nx (k + 1, x == y) (by simp only; omega) ⟨by first | omega | (simp only; omega), fun _ => hle hok, by rw [← hsk, beq_dec]⟩ ⟨rfl, rfl, rfl, rfl, rfl, trivial⟩
  · have h18b := h18
    try simp only [sxb] at h18
    rw [Bool.and_eq_false_iff, decide_eq_false_iff_not] at h18b
    refine cj_exit (ej_then_exit (ej_then_exit (ej_blk_hit (ej_th (cj_seq ?_)))))
    refine cj_regionG (gj_step (y_move rfl) rfl rfl rfl (gj_step (y_assign rfl) rfl rfl rfl (gj_nil ?_)))
    refine ej_th (cj_ret ?_)
    refine ej_ret1 rfl Try.results22 rfl (fun w' hp => ⟨?_, hp.below⟩)
    rw [← hsk]
    cases hok : ok with
    | false => rfl
    | true =>
      have hl2 := hle hok
      have hk2 : a.length ≤ k := by rcases h18b with h | h; rw [hok] at h; cases h; omega
      rw [List.drop_of_length_le hk2, List.drop_of_length_le (show b.length ≤ k by omega)]; rfl

def exS : Str := ⟨[⟨0, 0, 0⟩, ⟨2, 0, 4⟩, ⟨1, 1, 0⟩], [⟨0, 1, 1, [1]⟩, ⟨1, 2, 2, [6]⟩, ⟨0, 2, 1, [8]⟩], [1, 2, 3]⟩
def strX (b4 b5 b7 b9 b11 b12 : Nat) : StrV := ⟨some ⟨b4, 0, none⟩, 3, [⟨0, 0, 0⟩, ⟨2, 0, 4⟩, ⟨1, 1, 0⟩], some ⟨b11, 0, none⟩, 3, [⟨0, 1, 1, some ⟨b5, 0, none⟩, 1, [1]⟩, ⟨1, 2, 2, some ⟨b7, 0, none⟩, 1, [6]⟩, ⟨0, 2, 1, some ⟨b9, 0, none⟩, 1, [8]⟩], some ⟨b12, 0, none⟩, 3, [1, 2, 3]⟩
abbrev exL : List CarryV := [⟨5, 1, 7, 1, 0, 1, 10, 3⟩, ⟨6, 2, 7, 2, 1, 2, 0, 0⟩, ⟨8, 3, 7, 0, 0, 1, 10, 0⟩]
theorem lit_sl {α : Type} {w0 w : World} {O S : List Fact} {b e sz : Nat} {enc : α → List Value} {cs : List Value} (hp : Hp (fun i => i < w0.heap.size) w0 O S w) [h : HasB O b (cellsB e cs)] (xs : List α) (he : ∀ x, (enc x).length = sz) (hcs : xs.flatMap enc = cs) (hl : xs.length ≤ maxLen) : (sl (fun i => w0.heap.size ≤ i ∧ i < w.heap.size) sz enc (some ⟨b, 0, none⟩) xs).P w := by
  obtain ⟨h1, h2⟩ := hp.lit (b := b) (e := e) xs he hcs hl
  exact sl_fp h1 (fun i hi => ⟨(h2 i hi).1, (h2 i hi).2.1⟩)
theorem ex_V {s : StrV} (h : s.s = exS) : (EntV s 3 = 7 ∧ askE s 3 = 0) ∧ (wayE s 3 2 = 0 ∧ wayL s 3 2 = [0, 1]) ∧ (roomE s 2 = 0 ∧ grpsV s 2 = [3, 5, 6]) ∧ (roomE s 1 = 0 ∧ grdsV s 1 = [5]) ∧ clsE s 1 3 = 0 ∧ clsV s 1 3 = true := by
  have hr : s.rooms = exS.rooms := congrArg Str.rooms h
  have hst : s.staff = exS.staff := congrArg Str.staff h
  simp only [EntV, askE, wayE, wayL, roomE, grpsV, grdsV, clsE, clsV, h, hr, hst]
  decide +kernel
theorem ex_P : (playE exS exL = 0 ∧ playAt exS exL = 3) ∧ (whereE exS exL 7 5 = 0 ∧ whereR exS exL 7 5 = 1) ∧ suspE exS (exL.take 2) 7 = 0 ∧ suspV exS (exL.take 2) 7 = [1, 4] ∧ (playB exS exL)[7]? = some ⟨2, 10, 3, 0, 1⟩ := by decide +kernel

set_option maxHeartbeats 1000000 in
theorem k_strong  (w : World)  : Calls Try.prog 40 #[] w (fun e w' => ∃ s : StrV, s.s = exS ∧ e = .returned (.agg #[.slice s.Ar s.rooms.length s.cr, .slice s.Ag s.gates.length s.cg, .slice s.As s.staff.length s.cs]) ∧ Grow w w' ∧ (strF (fun b => w.heap.size ≤ b ∧ b < w'.heap.size) s).P w') := by
  refine enter_pure (args := []) [] Try.func40 rfl (by rw [Try.ntmps40]; simp) (by simp) ?_
  refine cj_seq (cj_region ?_)
  refine oj_alloc Try.zeroValue26 rfl rfl (fun b0 => ?_)
  refine oj_nil ?_
  refine ej_th (cj_seq (cj_region ?_))
  refine oj_step (y_build st71 rfl rfl) rfl rfl rfl ?_
  refine oj_step (y_build (cs := [.int .i64 2, .int .i64 0, .int .i64 4]) st71 rfl (by kernel_rfl)) rfl rfl rfl ?_
  refine oj_step (y_build (cs := [.int .i64 1, .int .i64 1, .int .i64 0]) st71 rfl (by kernel_rfl)) rfl rfl rfl ?_
  refine oj_buildSlice [.int .i64 0, .int .i64 0, .int .i64 0, .int .i64 0, .int .i64 0, .int .i64 0, .int .i64 0, .int .i64 0, .int .i64 0] Try.underlying22 Try.sizeOf71 Try.zeroValue71 rfl rfl (by kernel_rfl) rfl rfl (fun b4 => ?_)
  refine oj_buildSlice (cs := [.int .i64 1]) [.int .i64 0] Try.underlying24 Try.sizeOf3 Try.zeroValue3 rfl rfl (by kernel_rfl) (by kernel_rfl) rfl (fun b5 => ?_)
  refine oj_step (y_build (cs := [.int .i64 0, .int .i64 1, .int .i64 1, .slice (some ⟨b5, 0, none⟩) 1 1]) st69 rfl (by kernel_rfl)) rfl rfl rfl ?_
  refine oj_buildSlice (cs := [.int .i64 6]) [.int .i64 0] Try.underlying24 Try.sizeOf3 Try.zeroValue3 rfl rfl (by kernel_rfl) (by kernel_rfl) rfl (fun b7 => ?_)
  refine oj_step (y_build (cs := [.int .i64 1, .int .i64 2, .int .i64 2, .slice (some ⟨b7, 0, none⟩) 1 1]) st69 rfl (by kernel_rfl)) rfl rfl rfl ?_
  refine oj_buildSlice (cs := [.int .i64 8]) [.int .i64 0] Try.underlying24 Try.sizeOf3 Try.zeroValue3 rfl rfl (by kernel_rfl) (by kernel_rfl) rfl (fun b9 => ?_)
  refine oj_step (y_build (cs := [.int .i64 0, .int .i64 2, .int .i64 1, .slice (some ⟨b9, 0, none⟩) 1 1]) st69 rfl (by kernel_rfl)) rfl rfl rfl ?_
  refine oj_buildSlice (cs := [.int .i64 0, .int .i64 1, .int .i64 1, .slice (some ⟨b5, 0, none⟩) 1 1, .int .i64 1, .int .i64 2, .int .i64 2, .slice (some ⟨b7, 0, none⟩) 1 1, .int .i64 0, .int .i64 2, .int .i64 1, .slice (some ⟨b9, 0, none⟩) 1 1]) [.int .i64 0, .int .i64 0, .int .i64 0, .slice none 0 0, .int .i64 0, .int .i64 0, .int .i64 0, .slice none 0 0, .int .i64 0, .int .i64 0, .int .i64 0, .slice none 0 0] Try.underlying23 Try.sizeOf69 Try.zeroValue69 rfl rfl (by kernel_rfl) (by kernel_rfl) rfl (fun b11 => ?_)
  refine oj_buildSlice (cs := [.int .i64 1, .int .i64 2, .int .i64 3]) [.int .i64 0, .int .i64 0, .int .i64 0] Try.underlying24 Try.sizeOf3 Try.zeroValue3 rfl rfl (by kernel_rfl) (by kernel_rfl) rfl (fun b12 => ?_)
  refine oj_step (y_build (cs := [.slice (some ⟨b4, 0, none⟩) 3 3, .slice (some ⟨b11, 0, none⟩) 3 3, .slice (some ⟨b12, 0, none⟩) 3 3]) st26 rfl (by kernel_rfl)) rfl rfl rfl ?_
  refine oj_store rfl rfl rfl rfl Try.sizeOf26 rfl ?_
  refine oj_nil ?_
  refine ej_th (cj_ret ?_)
  exact ej_retC1 rfl Try.results40 rfl (y_loadN Try.isAgg26 Try.sizeOf26 rfl) (fun w' hp => ⟨strX b4 b5 b7 b9 b11 b12, rfl, rfl, hp.below, ⟨lit_sl (b := b4) (sz := 3) (enc := encRo) hp [⟨0, 0, 0⟩, ⟨2, 0, 4⟩, ⟨1, 1, 0⟩] (fun _ => rfl) rfl (by unfold maxLen; simp), lit_sl (b := b11) (sz := 4) (enc := encGa) hp [⟨0, 1, 1, some ⟨b5, 0, none⟩, 1, [1]⟩, ⟨1, 2, 2, some ⟨b7, 0, none⟩, 1, [6]⟩, ⟨0, 2, 1, some ⟨b9, 0, none⟩, 1, [8]⟩] (fun _ => rfl) rfl (by unfold maxLen; simp)⟩, lit_sl (b := b12) (sz := 1) (enc := enInt) hp [1, 2, 3] (fun _ => rfl) rfl (by unfold maxLen; simp), fun g hg => by
    rcases List.mem_cons.1 hg with rfl | hg
    · exact lit_sl (b := b5) (sz := 1) (enc := enInt) hp [1] (fun _ => rfl) rfl (by unfold maxLen; simp)
    rcases List.mem_cons.1 hg with rfl | hg
    · exact lit_sl (b := b7) (sz := 1) (enc := enInt) hp [6] (fun _ => rfl) rfl (by unfold maxLen; simp)
    rcases List.mem_cons.1 hg with rfl | hg
    · exact lit_sl (b := b9) (sz := 1) (enc := enInt) hp [8] (fun _ => rfl) rfl (by unfold maxLen; simp)
    · cases hg⟩)

theorem k_log  (w : World)  : Calls Try.prog 41 #[] w (fun e w' => ∃ (A : Option Addr) (_ : Nat), e = .returned (.slice A exL.length 3) ∧ Grow w w' ∧ Res w w' 8 encCa A exL) := by
  refine enter_pure (args := []) [] Try.func41 rfl (by rw [Try.ntmps41]; simp) (by simp) ?_
  refine cj_seq ?_
  refine cj_regionG (gj_step (y_assign rfl) rfl rfl rfl (gj_nil ?_))
  refine ej_th (cj_seq (cj_region ?_))
  refine oj_step (y_build (cs := [.int .i64 5, .int .i64 1, .int .i64 7, .int .i64 1, .int .i64 0, .int .i64 1, .int .i64 10, .int .i64 3]) st52 rfl (by kernel_rfl)) rfl rfl rfl ?_
  refine oj_step (y_build (cs := [.int .i64 6, .int .i64 2, .int .i64 7, .int .i64 2, .int .i64 1, .int .i64 2, .int .i64 0, .int .i64 0]) st52 rfl (by kernel_rfl)) rfl rfl rfl ?_
  refine oj_step (y_build (cs := [.int .i64 8, .int .i64 3, .int .i64 7, .int .i64 0, .int .i64 0, .int .i64 1, .int .i64 10, .int .i64 0]) st52 rfl (by kernel_rfl)) rfl rfl rfl ?_
  refine oj_buildSlice (cs := [.int .i64 5, .int .i64 1, .int .i64 7, .int .i64 1, .int .i64 0, .int .i64 1, .int .i64 10, .int .i64 3, .int .i64 6, .int .i64 2, .int .i64 7, .int .i64 2, .int .i64 1, .int .i64 2, .int .i64 0, .int .i64 0, .int .i64 8, .int .i64 3, .int .i64 7, .int .i64 0, .int .i64 0, .int .i64 1, .int .i64 10, .int .i64 0]) [.int .i64 0, .int .i64 0, .int .i64 0, .int .i64 0, .int .i64 0, .int .i64 0, .int .i64 0, .int .i64 0, .int .i64 0, .int .i64 0, .int .i64 0, .int .i64 0, .int .i64 0, .int .i64 0, .int .i64 0, .int .i64 0, .int .i64 0, .int .i64 0, .int .i64 0, .int .i64 0, .int .i64 0, .int .i64 0, .int .i64 0, .int .i64 0] Try.underlying45 Try.sizeOf52 Try.zeroValue52 rfl rfl (by kernel_rfl) (by kernel_rfl) rfl (fun b4 => ?_)
  refine oj_step (y_assign rfl) rfl rfl rfl ?_
  refine oj_nil ?_
  refine ej_th (cj_ret ?_)
  exact ej_ret1 rfl Try.results41 rfl (fun w' hp => ⟨some ⟨b4, 0, none⟩, 3, rfl, hp.below, lit_sl (b := b4) (sz := 8) (enc := encCa) hp exL (fun _ => rfl) rfl (by unfold maxLen; simp)⟩)

end Go.Proofs.Ytomidcehahdmbaa
namespace Go.Proofs.Ytomidcehahdmbaa
open Go Go.Sx Go.RowKit Vm
structure WyV where
  A : Option Addr
  c : Nat
  w : List Nat
abbrev wy0 : WyV := ⟨none, 0, []⟩
abbrev evW (x : WyV) : Value := .slice x.A (intsL x.w).length x.c
abbrev Sq := List (Nat × WyV)
theorem ints_snoc (l : List Nat) (k : Nat) : intsL (l ++ [k]) = intsL l ++ [((k : Nat) : Int)] := by simp
def mapL (q : Sq) : List (Int × WyV) := q.map fun e => ((e.1 : Int), e.2)
def seqW (q : Sq) : List (Nat × List Nat) := q.map fun e => (e.1, e.2.w)
def quL (q : Sq) (p : Nat) : List Int := (q.drop p).map fun e => (e.1 : Int)
/-- The slices of all ways that were found. -/
def famW (fp : Nat → Prop) (q : Sq) : Fact := ⟨fp, fun w => ∀ e ∈ q, (sl fp 1 enInt e.2.A (intsL e.2.w)).P w, fun h k e he => (sl fp 1 enInt e.2.A (intsL e.2.w)).stab h (k e he)⟩
theorem mapL_no {q : Sq} {r : Nat} (h : ∀ f ∈ q, f.1 ≠ r) : getL (mapL q) (r : Int) = none := by
  induction q with
  | nil => rfl
  | cons e q ih =>
    have h1 := h e (List.mem_cons_self ..)
    show (if ((e.1 : Int) = (r : Int)) then _ else getL (mapL q) (r : Int)) = none
    rw [if_neg (by omega)]
    exact ih (fun f hf => h f (List.mem_cons_of_mem _ hf))
theorem mapL_has {q : Sq} {r : Nat} {v : WyV} (h : getL (mapL q) (r : Int) = some v) : ∃ f ∈ q, f.1 = r := by
  induction q with
  | nil => cases h
  | cons e q ih =>
    have h : (if ((e.1 : Int) = (r : Int)) then some e.2 else getL (mapL q) (r : Int)) = some v := h
    by_cases he : (e.1 : Int) = (r : Int)
    · exact ⟨e, List.mem_cons_self .., by omega⟩
    · rw [if_neg he] at h
      obtain ⟨f, hf, h2⟩ := ih h
      exact ⟨f, List.mem_cons_of_mem _ hf, h2⟩
theorem mapL_at : ∀ {q : Sq} {p : Nat} {e : Nat × WyV}, (q.map (·.1)).Nodup → q[p]? = some e → getL (mapL q) (e.1 : Int) = some e.2
  | [], _, _, _, h => by cases h
  | f :: q, 0, e, _, h => by
    have : f = e := by simpa using h
    subst this
    show (if ((f.1 : Int) = (f.1 : Int)) then some f.2 else _) = _
    rw [if_pos rfl]
  | f :: q, p + 1, e, hn, h => by
    rw [List.map_cons, List.nodup_cons] at hn
    have hq : q[p]? = some e := by simpa using h
    show (if ((f.1 : Int) = (e.1 : Int)) then some f.2 else getL (mapL q) (e.1 : Int)) = _
    rw [if_neg, mapL_at hn.2 hq]
    intro he
    exact hn.1 (List.mem_map.2 ⟨e, List.mem_of_getElem? hq, by omega⟩)
theorem putL_new {q : Sq} {r : Nat} {v : WyV} (h : ∀ f ∈ q, f.1 ≠ r) : putL (mapL q) (r : Int) v = mapL (q ++ [(r, v)]) := by
  induction q with
  | nil => rfl
  | cons e q ih =>
    have h1 := h e (List.mem_cons_self ..)
    show (if ((e.1 : Int) = (r : Int)) then _ else ((e.1 : Int), e.2) :: putL (mapL q) (r : Int) v) = _
    rw [if_neg (by omega), ih (fun f hf => h f (List.mem_cons_of_mem _ hf))]; rfl
theorem seqW_get {q : Sq} {p : Nat} {e : Nat × WyV} (h : q[p]? = some e) : (seqW q)[p]? = some (e.1, e.2.w) := by unfold seqW; rw [List.getElem?_map, h]; rfl
theorem seqW_keys (q : Sq) : (seqW q).map (·.1) = q.map (·.1) := by unfold seqW; rw [List.map_map]; rfl
theorem seqW_mem {q : Sq} {e : Nat × List Nat} (h : e ∈ seqW q) : ∃ f ∈ q, f.1 = e.1 := by
  obtain ⟨f, hf, rfl⟩ := List.mem_map.1 h
  exact ⟨f, hf, rfl⟩
theorem mem_seqW {q : Sq} {f : Nat × WyV} (h : f ∈ q) : (f.1, f.2.w) ∈ seqW q := List.mem_map.2 ⟨f, h, rfl⟩
theorem seqW_snoc (q : Sq) (r : Nat) (v : WyV) : seqW (q ++ [(r, v)]) = seqW q ++ [(r, v.w)] := by unfold seqW; rw [List.map_append]; rfl
theorem quL_cons {q : Sq} {p : Nat} {e : Nat × WyV} (h : q[p]? = some e) : quL q p = (e.1 : Int) :: quL q (p + 1) := by unfold quL; rw [get_drop h]; rfl
theorem quL_snoc {q : Sq} {p : Nat} (r : Nat) (v : WyV) (h : p ≤ q.length) : quL (q ++ [(r, v)]) p = quL q p ++ [(r : Int)] := by
  unfold quL
  rw [List.drop_append_of_le_length h, List.map_append]; rfl
theorem quL_len (q : Sq) (p : Nat) : (quL q p).length = q.length - p := by unfold quL; simp
theorem nodup_lt : ∀ (n : Nat) (l : List Nat), l.Nodup → (∀ x ∈ l, x < n) → l.length ≤ n
  | 0, [], _, _ => Nat.le_refl _
  | 0, x :: l, _, h => absurd (h x (List.mem_cons_self ..)) (Nat.not_lt_zero x)
  | n + 1, l, hn, h => by
    by_cases hm : n ∈ l
    · have h1 := nodup_lt n (l.erase n) (hn.erase n) (fun x hx => by
        have h2 := hn.mem_erase_iff.1 hx
        have h3 := h x h2.2
        have h4 := h2.1
        omega)
      rw [List.length_erase_of_mem hm] at h1
      omega
    · have h1 := nodup_lt n l hn (fun x hx => by
        have h3 := h x hx
        have h4 : x ≠ n := fun e => hm (e ▸ hx)
        omega)
      omega
theorem sq_len {q : Sq} (hn : (q.map (·.1)).Nodup) (h64 : ∀ e ∈ q, e.1 < 64) : q.length ≤ 64 := by
  have h1 := nodup_lt 64 (q.map (·.1)) hn (fun x hx => by
    obtain ⟨e, he, rfl⟩ := List.mem_map.1 hx
    exact h64 e he)
  simpa using h1
theorem way_found {s : StrV} {g room : Int} {n m : Nat} {e : Nat × List Nat} (h0 : askE s g = 0) (hb : strB s.s = true) (hn : g = n) (hm : room = m) (h2 : btw 0 room (s.rooms.length - 1) = true) (hF : First s.s n m e.2) : wayE s g room = 0 ∧ wayL s g room = e.2 := by
  subst hn; subst hm
  exact way_0 h0 h2 (by rw [Int.toNat_natCast, Int.toNat_natCast]; exact wayV_first hb hF)
theorem way_none {s : StrV} {n m : Nat} (h : ∀ w, ¬ Vm.Good s.s n m w) : wayV s.s n m = none := by
  cases hw : wayV s.s n m with
  | none => rfl
  | some l => exact absurd (wayV_some hw).1 (h l)
theorem y_lkW {C : Cx} {L : Regs} {O S : List Fact} {dst : Option Tmp} {ty t kt et : TypeId} {pos : String} {aft : Array Edge} {gu : Option (Nat × Bool)} {x y : Operand} {b : Nat} {l : List (Int × WyV)} {kk : Int} {v : WyV} {kd : TypeDesc} (d0 : WyV) (hat : getL l kk = some v) [hk : KeyE ekI kd] [h : HasMp O b ekI evW l] (ht : C.P.underlying t = some (.map kt et)) (hkt : C.P.underlying kt = some kd) (hz : ∀ w, (zeroValue et).run C.P w = .ok (evW d0) w)
    (hx : val L x = some (.map (some b))) (hy : val L y = some (ekI kk)) : Yi C ⟨dst, .lookup t x y false, ty, pos, aft, gu⟩ L O S (evW v) := by
  have h1 := y_lookup1 (C := C) (L := L) (O := O) (S := S) (dst := dst) (ty := ty) (pos := pos) (aft := aft) (gu := gu) (ek := ekI) (ev := evW) d0 ht hkt hz hx hy
  rw [hat] at h1
  exact h1
theorem mapL_some {q : Sq} {f : Nat × WyV} (hn : (q.map (·.1)).Nodup) (hf : f ∈ q) : (getL (mapL q) (f.1 : Int)).isSome = true := by
  obtain ⟨i, hi⟩ := List.getElem?_of_mem hf
  rw [mapL_at hn hi]; rfl
def fndI : Option (Nat × WyV) → Int
  | none => -1
  | some e => e.1
theorem fnd_neg {x : Option (Nat × WyV)} (h : fndI x < 0) : x = none := by
  cases x with
  | none => rfl
  | some e => exact absurd h (by show ¬ ((e.1 : Int) < 0); omega)
theorem fnd_pos {x : Option (Nat × WyV)} (h : 0 ≤ fndI x) : ∃ e, x = some e := by
  cases x with
  | none => exact absurd h (by decide)
  | some e => exact ⟨e, rfl⟩
end Go.Proofs.Ytomidcehahdmbaa
namespace Go.Proofs.Ytomidcehahdmbaa
open Go.Sx Go.RowKit Vm
set_option maxRecDepth 20000
set_option maxHeartbeats 3200000 in
theorem k_Way (s : StrV) (g room : Int) (w : World) (hs : StrRd w s) : Calls Try.prog 35 #[.agg #[.slice s.Ar s.rooms.length s.cr, .slice s.Ag s.gates.length s.cg, .slice s.As s.staff.length s.cs], .int .i64 g, .int .i64 room] w (fun e w' => ∃ A c, e = .returned (.tuple #[.slice A (intsL (wayL s g room)).length c, .int .i64 (wayE s g room)]) ∧ Grow w w' ∧ Res w w' 1 enInt A (intsL (wayL s g room))) := by
  have hlr := hs.rooms.len
  refine enter_pure (args := [.agg #[.slice s.Ar s.rooms.length s.cr, .slice s.Ag s.gates.length s.cg, .slice s.As s.staff.length s.cs], .int .i64 g, .int .i64 room]) [sl (fun b => b < w.heap.size) 3 encRo s.Ar s.rooms, sl (fun b => b < w.heap.size) 4 encGa s.Ag s.gates, sl (fun b => b < w.heap.size) 1 enInt s.As s.staff] Try.func35 rfl (by rw [Try.ntmps35]; simp) (fun g hg => by simp at hg; rcases hg with rfl | rfl | rfl; exact ⟨hs.rooms, fun _ h => h⟩; exact ⟨hs.gates, fun _ h => h⟩; exact ⟨hs.staff, fun _ h => h⟩) ?_
  refine cj_seq (cj_region ?_)
  refine oj_box rfl rfl rfl (fun b3 => ?_)
  refine oj_step (y_assign rfl) rfl rfl rfl ?_
  refine oj_step (y_assign rfl) rfl rfl rfl ?_
  refine oj_nil ?_
  refine ej_th ?_
  refine cj_scope rfl ?_
  refine cj_seq (cj_region ?_)
  refine oj_step (y_loadN Try.isAgg26 Try.sizeOf26 rfl) rfl rfl rfl ?_
  refine oj_step (y_move rfl) rfl rfl rfl ?_
  refine oj_step (y_call Try.call42 rfl (fun w hp => k_asked s g w (hs.mono hp.below))) rfl rfl rfl ?_
  refine oj_step (y_move rfl) rfl rfl rfl ?_
  refine oj_step (y_extract rfl rfl) rfl rfl rfl ?_
  refine oj_step (y_extract rfl rfl) rfl rfl rfl ?_
  refine oj_alloc Try.zeroValue76 rfl rfl (fun b8 => ?_)
  refine oj_store rfl rfl rfl rfl Try.sizeOf76 rfl ?_
  refine oj_step (y_assign rfl) rfl rfl rfl ?_
  refine oj_nil ?_
  refine ej_th (cj_seq (cj_seq ?_))
  refine cj_regionG (gj_step (y_move rfl) rfl rfl rfl (gj_step (y_neq rfl rfl) rfl rfl rfl (gj_nil ?_)))
  refine ej_th ?_
  refine cj_cond rfl (fun h28 => ?_) (fun h28 => ?_)
  · have h28b := h28
    try simp only [sxb] at h28
    obtain ⟨e1, e2⟩ := way_bad (m := room) h28
    refine cj_seq ?_
    refine cj_regionG (gj_step (y_move rfl) rfl rfl rfl (gj_step (y_assign rfl) rfl rfl rfl (gj_step (y_assign rfl) rfl rfl rfl (gj_nil ?_))))
    refine ej_th (cj_ret (ej_then_ret (ej_noGoto_ret ?_)))
    exact ej_ret2 rfl Try.results35 rfl rfl (fun w' hp => ⟨none, 0, (by rw [e1, e2]; try rfl), hp.below, by rw [e2]; exact Res.nil⟩)
  · have h28b := h28
    try simp only [sxb] at h28
    have h0 : askE s g = 0 := by simpa using h28
    obtain ⟨e2, e3, hb, hg0, hgl, hm64⟩ := ask_0 h0
    have hok := StrOk.of hb
    have hnr := hok.nr
    have hng := hok.ng
    have hns := hok.ns
    obtain ⟨n, hn⟩ : ∃ n : Nat, g = n := ⟨g.toNat, by omega⟩
    subst hn
    rw [Int.toNat_natCast] at hm64 hgl
    rw [e2, e3]
    have h64r : 2 ^ s.rooms.length ≤ 64 := pow_le64 hnr.2
    refine cj_skip (ej_th (cj_seq (cj_seq ?_)))
    refine cj_regionG ?_
    refine gj_step (y_move rfl) rfl rfl rfl (gj_step (y_fa0 fa26_0 rfl) rfl rfl rfl (gj_step (y_load1 Try.isAgg22 rfl rfl) rfl rfl rfl (gj_step (y_lenA Try.underlying22 rfl) rfl rfl rfl (gj_step (y_sub rfl rfl (by omega)) rfl rfl rfl (?_)))))
    refine gj_step (y_call Try.call46 rfl (fun w hp => k_within _ _ _ w)) rfl rfl rfl ?_
    refine gj_step (y_not rfl) rfl rfl rfl (?_)
    refine gj_nil ?_
    refine ej_th ?_
    refine cj_cond rfl (fun h36 => ?_) (fun h36 => ?_)
    · have h36b := h36
      try simp only [sxb] at h36
      obtain ⟨e1, e2⟩ := way_7 h0 (not_t h36b)
      refine cj_seq ?_
      refine cj_regionG (gj_step (y_assign rfl) rfl rfl rfl (gj_step (y_assign rfl) rfl rfl rfl (gj_nil ?_)))
      refine ej_th (cj_ret (ej_then_ret (ej_noGoto_ret ?_)))
      exact ej_ret2 rfl Try.results35 rfl rfl (fun w' hp => ⟨none, 0, (by rw [e1, e2]; try rfl), hp.below, by rw [e2]; exact Res.nil⟩)
    · have h36b := h36
      try simp only [sxb] at h36
      have hrb := btw_t.1 (not_f h36b)
      obtain ⟨m, hm⟩ : ∃ m : Nat, room = m := ⟨room.toNat, by omega⟩
      subst hm
      have hpm := pow_bd (k := m) (n := 6) (by omega) (by omega)
      refine cj_skip (ej_th (cj_seq (cj_region ?_)))
      refine oj_makeMap ekI evW rfl (fun m37 => ?_)
      refine oj_insert (oj_mapUpdate (ek := ekI) (ev := evW) (l := []) (kk := 1) (v := wy0) Try.underlying99 Try.underlying3 rfl rfl rfl ?_)
      refine oj_step (y_move rfl) rfl rfl rfl ?_
      refine oj_step (y_assign rfl) rfl rfl rfl ?_
      refine oj_nil ?_
      refine ej_th (cj_seq (cj_region ?_))
      refine oj_buildSlice (cs := [.int .i64 1]) [.int .i64 0] Try.underlying24 Try.sizeOf3 Try.zeroValue3 rfl rfl (by kernel_rfl) (by kernel_rfl) rfl (fun b39 => ?_)
      refine oj_step (y_assign rfl) rfl rfl rfl ?_
      refine oj_nil ?_
      refine ej_th (cj_seq ?_)
      refine cj_regionG (gj_step (y_assign rfl) rfl rfl rfl (gj_nil ?_))
      refine ej_th (cj_seq (cj_label (ej_th ?_)))
      refine cj_cuti (X := Option (Nat × WyV) × Sq × (Nat → Prop)) [(6, _), (7, _), (10, _)] ⟨rfl, rfl, rfl, trivial⟩ (fun ⟨x, q, fp⟩ => (∀ b, fp b → w.heap.size ≤ b) ∧ (match (x : Option (Nat × WyV)) with | none => wayE s n m = 4 ∧ wayL s n m = [] | some e => ∃ i : Nat, q[i]? = some e ∧ (q.map (·.1)).Nodup ∧ wayE s n m = 0 ∧ wayL s n m = e.2.w)) (fun ⟨x, q, fp⟩ => [(12, .int .i64 (fndI x))]) (fun ⟨x, q, fp⟩ => [mp ekI evW m37 (mapL q)]) (fun ⟨x, q, fp⟩ => [famW fp q]) ?_ ?_
      · refine cj_block ?_
        refine cj_quOf (b := b39) (fun n : Int => .int .i64 n) [1] rfl ?_
        refine cj_eqO [qu 3 (fun n : Int => .int .i64 n) b39 0 1 (quL [(1, wy0)] 0), mp ekI evW m37 (mapL [(1, wy0)]), ownB b8 (cellsB 76 [.slice s.Ar s.rooms.length s.cr, .slice s.Ag s.gates.length s.cg, .slice s.As s.staff.length s.cs, .int .i64 (n : Nat)]), ownB b3 (cellsB 26 [.slice s.Ar s.rooms.length s.cr, .slice s.Ag s.gates.length s.cg, .slice s.As s.staff.length s.cs])] rfl ?_
        refine cj_addS (famW (fun _ => False) [(1, wy0)]) (fun w1 hp => ⟨fun e he => (by rw [List.mem_singleton.1 he]; exact ⟨Nat.zero_le _, fun h => absurd rfl h⟩), fun b h => h.elim⟩) ?_
        refine cj_lpi (X := Nat × Sq × Nat × Nat × Nat × (Nat → Prop)) [(2, _), (3, _), (6, _), (7, _), (8, _), (10, _)] (fun ⟨p, q, b, kq, cq, fp⟩ => p ≤ q.length ∧ Bfs s.s n m (seqW q) p 0 ∧ (∀ x ∈ q, x.1 < 2 ^ s.rooms.length) ∧ (∀ b, fp b → w.heap.size ≤ b)) (fun ⟨p, q, b, kq, cq, fp⟩ => [(11, .slice (some ⟨b, kq, none⟩) (quL q p).length cq), (12, .int .i64 (-1))]) (fun ⟨p, q, b, kq, cq, fp⟩ => [qu 3 (fun n : Int => .int .i64 n) b kq cq (quL q p), mp ekI evW m37 (mapL q), ownB b8 (cellsB 76 [.slice s.Ar s.rooms.length s.cr, .slice s.Ag s.gates.length s.cg, .slice s.As s.staff.length s.cs, .int .i64 (n : Nat)]), ownB b3 (cellsB 26 [.slice s.Ar s.rooms.length s.cr, .slice s.Ag s.gates.length s.cg, .slice s.As s.staff.length s.cs])]) (fun ⟨p, q, b, kq, cq, fp⟩ => [famW fp q, sl (fun b => b < w.heap.size) 3 encRo s.Ar s.rooms, sl (fun b => b < w.heap.size) 4 encGa s.Ag s.gates, sl (fun b => b < w.heap.size) 1 enInt s.As s.staff]) (fun ⟨p, q, b, kq, cq, fp⟩ => 65 - p) (0, [(1, wy0)], b39, 0, 1, fun _ => False) (⟨by simp, Bfs.start s.s n m, fun x hx => by rw [List.mem_singleton.1 hx]; exact one_lt hb, fun _ h => h.elim⟩) ⟨rfl, rfl, rfl, rfl, rfl, rfl, rfl, rfl, trivial⟩ ?_
        rintro ⟨p, q, b, kq, cq, fp⟩ ⟨hp0, hB, hqk, hfp⟩
        dsimp only [List.cons_append, List.nil_append]
        refine cj_seq (cj_seq ?_)
        refine cj_regionG (gj_step (y_move rfl) rfl rfl rfl (gj_step (y_lenA Try.underlying24 rfl) rfl rfl rfl (gj_step (y_gtr rfl rfl) rfl rfl rfl (gj_nil ?_))))
        refine ej_th ?_
        refine cj_cond rfl (fun h42 => ?_) (fun h42 => ?_)
        · have h42b := h42
          try simp only [sxb] at h42
          have hql0 := quL_len q p
          obtain ⟨e, he⟩ : ∃ e, q[p]? = some e := ⟨_, List.getElem?_eq_getElem (by omega)⟩
          have hek := hqk e (get_mem he)
          have hqe := quL_cons he
          have hnod : (q.map (·.1)).Nodup := by rw [← seqW_keys]; exact hB.keys
          have hat := mapL_at hnod he
          have hsl := sq_len hnod (fun x hx => by have := hqk x hx; omega)
          have hql := quL_len q (p + 1)
          have hpl := (List.getElem?_eq_some_iff.1 he).1
          have hewl : e.2.w.length < 6 := Nat.lt_of_lt_of_le (walk_len hb (hB.ways _ (get_mem (seqW_get he)))) hnr.2
          have hewI : (intsL e.2.w).length < 6 := by rw [enC]; exact hewl
          refine cj_get (p := (quL q p).length ≤ cq) (fun w1 hp => by obtain ⟨cur, _, _, h3, _⟩ := (hp.own _ (.head _)).1; exact h3) (fun hqc => ?_)
          rw [hqe] at hqc ⊢
          refine cj_skip (ej_th (cj_block (cj_seq ?_)))
          refine cj_regionG (gj_step (y_move rfl) rfl rfl rfl (gj_step (y_ixR (reads_qu (List.mem_cons_self ..)) Try.underlying24 Try.sizeOf3 rfl rfl (⟨by simp, by simp only [List.length_cons]; omega⟩)) rfl rfl rfl (gj_step (y_ld0 (reads_qu (List.mem_cons_self ..)) Try.isAgg3 rfl (by rfl) rfl) rfl rfl rfl (gj_step (y_assign rfl) rfl rfl rfl (gj_nil ?_)))))
          refine ej_th (cj_seq ?_)
          refine cj_regionG (gj_step (y_move rfl) rfl rfl rfl (gj_step (y_quCut Try.underlying24 Try.sizeOf3 rfl rfl hqc) rfl rfl rfl (gj_step (y_assign rfl) rfl rfl rfl (gj_nil ?_))))
          refine ej_th (cj_seq (cj_seq ?_))
          refine cj_quCut (b := b) (k := kq) (c := cq) (x := ((e.1 : Nat) : Int)) (xs := quL q (p + 1)) ?_
          refine cj_regionG ?_
          refine gj_step (y_move rfl) rfl rfl rfl (gj_step (y_move rfl) rfl rfl rfl (gj_step (y_shl1 rfl rfl (by omega)) rfl rfl rfl (?_)))
          refine gj_step (y_call Try.call55 rfl (fun w hp => k_has e.1 (2 ^ m) w (by omega) (by omega))) rfl rfl rfl ?_
          refine gj_nil ?_
          refine ej_th ?_
          refine cj_cond rfl (fun h51 => ?_) (fun h51 => ?_)
          · have h51b := h51
            try simp only [sxb] at h51
            rw [hasN_bit] at h51b
            have hF := hB.found (seqW_get he) h51b
            obtain ⟨e1, e2⟩ := way_found h0 hb rfl rfl (not_f h36b) hF
            refine cj_seq ?_
            refine cj_regionG (gj_step (y_move rfl) rfl rfl rfl (gj_step (y_assign rfl) rfl rfl rfl (gj_nil ?_)))
            refine ej_th (cj_exit (ej_then_exit (ej_blk_pass rfl (ej_then_exit (ej_blk_hit ?_)))))
            exact ej_ct (some e, q, fp) ⟨hfp, p, he, hnod, e1, e2⟩ ⟨rfl, rfl, rfl, rfl, trivial⟩
          · have h51b := h51
            try simp only [sxb] at h51
            rw [hasN_bit] at h51b
            refine cj_skip (ej_th (cj_seq ?_))
            refine cj_regionG (gj_step (y_fa fa26_1 rfl) rfl rfl rfl (gj_step (y_load1 Try.isAgg23 rfl rfl) rfl rfl rfl (gj_step (y_lenA Try.underlying23 rfl) rfl rfl rfl (gj_step (y_move rfl) rfl rfl rfl (gj_nil ?_)))))
            refine ej_th (cj_block ?_)
            refine cj_lpi (X := Nat × Sq × Nat × Nat × Nat × (Nat → Prop)) [(12, _), (2, _), (3, _), (6, _), (7, _), (8, _), (10, _), (13, _), (54, _), (55, _)] (fun ⟨k, q, b, kq, cq, fp⟩ => k ≤ s.gates.length ∧ q[p]? = some e ∧ Bfs s.s n m (seqW q) p k ∧ (∀ x ∈ q, x.1 < 2 ^ s.rooms.length) ∧ (∀ b, fp b → w.heap.size ≤ b)) (fun ⟨k, q, b, kq, cq, fp⟩ => [(11, .slice (some ⟨b, kq, none⟩) (quL q (p + 1)).length cq), (56, .int .i64 (k : Nat))]) (fun ⟨k, q, b, kq, cq, fp⟩ => [qu 3 (fun n : Int => .int .i64 n) b kq cq (quL q (p + 1)), mp ekI evW m37 (mapL q), ownB b8 (cellsB 76 [.slice s.Ar s.rooms.length s.cr, .slice s.Ag s.gates.length s.cg, .slice s.As s.staff.length s.cs, .int .i64 (n : Nat)]), ownB b3 (cellsB 26 [.slice s.Ar s.rooms.length s.cr, .slice s.Ag s.gates.length s.cg, .slice s.As s.staff.length s.cs])]) (fun ⟨k, q, b, kq, cq, fp⟩ => [famW fp q, sl (fun b => b < w.heap.size) 3 encRo s.Ar s.rooms, sl (fun b => b < w.heap.size) 4 encGa s.Ag s.gates, sl (fun b => b < w.heap.size) 1 enInt s.As s.staff]) (fun ⟨k, q, b, kq, cq, fp⟩ => s.gates.length - k) (0, q, b, if cq = 1 then kq else kq + 1, cq - 1, fp) (⟨Nat.zero_le _, he, hB, hqk, hfp⟩) ⟨rfl, rfl, rfl, rfl, rfl, rfl, rfl, rfl, rfl, rfl, rfl, rfl, trivial⟩ ?_
            rintro ⟨k, q, b, kq, cq, fp⟩ ⟨hk, he, hB, hqk, hfp⟩
            dsimp only [List.cons_append, List.nil_append]
            refine cj_seq ?_
            refine cj_regionG (gj_step (y_lss rfl rfl) rfl rfl rfl (gj_nil ?_))
            refine ej_th (cj_seq ?_)
            refine cj_cond rfl (fun h57 => ?_) (fun h57 => ?_)
            · have h57b := h57
              try simp only [sxb] at h57
              obtain ⟨g, hgk⟩ : ∃ g, s.gates[k]? = some g := ⟨_, List.getElem?_eq_getElem (by omega)⟩
              have hg := List.mem_of_getElem? hgk
              have hgo := hok.gate g hg
              obtain ⟨hga, hgb, hgne, hgn, hgl, hgw⟩ := hgo
              have hnb : 0 ≤ newI s n e.1 g ∧ newI s n e.1 g ≤ 5 := by
                unfold newI
                split
                · split <;> omega
                · omega
              have hpn : 2 ^ (newI s n e.1 g).toNat ≤ 1152921504606846976 := pow_bd (n := 6) (by omega) (by omega)
              refine cj_skip (ej_th (cj_seq (cj_block (cj_seq (cj_region ?_)))))
              refine oj_step (y_move rfl) rfl rfl rfl ?_
              refine oj_step (y_ixR (reads_sl) Try.underlying23 Try.sizeOf69 rfl rfl (⟨by omega, by omega⟩)) rfl rfl rfl ?_
              refine oj_step (y_ldW (reads_sl) Try.isAgg69 Try.sizeOf69 rfl (hgk) (fun _ => rfl)) rfl rfl rfl ?_
              refine oj_alloc Try.zeroValue69 rfl rfl (fun b15 => ?_)
              refine oj_step (y_assign rfl) rfl rfl rfl ?_
              refine oj_store rfl rfl rfl rfl Try.sizeOf69 rfl ?_
              refine oj_nil ?_
              refine ej_th (cj_seq ?_)
              refine cj_regionG ?_
              refine gj_step (y_loadN Try.isAgg76 Try.sizeOf76 rfl) rfl rfl rfl (gj_step (y_loadN Try.isAgg69 Try.sizeOf69 rfl) rfl rfl rfl (gj_step (y_move rfl) rfl rfl rfl (?_)))
              refine gj_step (y_call Try.call54 rfl (fun w hp => k_new s n e.1 g w (hs.mono hp.below) hb hm64 hek hg)) rfl rfl rfl ?_
              refine gj_step (y_move rfl) rfl rfl rfl (gj_step (y_extract rfl rfl) rfl rfl rfl (gj_step (y_extract rfl rfl) rfl rfl rfl (gj_step (y_assign rfl) rfl rfl rfl (gj_step (y_assign rfl) rfl rfl rfl (?_)))))
              refine gj_nil ?_
              refine ej_th (cj_seq ?_)
              refine cj_regionG (gj_step (y_move rfl) rfl rfl rfl (gj_step (y_move rfl) rfl rfl rfl (gj_step (y_shl1I rfl rfl hnb.1 (by omega)) rfl rfl rfl (gj_step (y_orN rfl rfl (by omega) (by omega)) rfl rfl rfl (gj_step (y_assign rfl) rfl rfl rfl (gj_nil ?_))))))
              refine ej_th (cj_seq (cj_seq ?_))
              refine cj_regionG (gj_step (y_move rfl) rfl rfl rfl (gj_step (y_move rfl) rfl rfl rfl (gj_step (y_lookup (ek := ekI) (ev := evW) (kk := ((e.1 ||| 2 ^ (newI s n e.1 g).toNat : Nat) : Int)) wy0 Try.underlying99 Try.underlying3 Try.zeroValue24 rfl rfl) rfl rfl rfl (gj_step (y_move rfl) rfl rfl rfl (gj_step (y_extract rfl rfl) rfl rfl rfl (gj_step (y_extract rfl rfl) rfl rfl rfl (gj_step (y_assign rfl) rfl rfl rfl (gj_step (y_assign rfl) rfl rfl rfl (gj_nil ?_)))))))))
              refine ej_th (cj_seq ?_)
              refine cj_regionG (gj_step (y_move rfl) rfl rfl rfl (gj_step (y_not rfl) rfl rfl rfl (gj_step (y_move rfl) rfl rfl rfl (gj_g 1 80 81 rfl rfl rfl rfl (fun hg80 => gj_yes rfl rfl rfl (y_move rfl) rfl rfl (gj_nil rfl)) (gj_step (y_or rfl rfl rfl) rfl rfl rfl (gj_nil ?_))))))
              refine ej_th ?_
              refine cj_cond rfl (fun h82 => ?_) (fun h82 => ?_)
              · have h82b := h82
                try simp only [sxb] at h82
                refine cj_exit (ej_then_exit (ej_blk_hit (ej_th ?_)))
                refine cj_regionG (gj_step (y_add rfl rfl (by omega)) rfl rfl rfl (gj_step (y_move rfl) rfl rfl rfl (gj_nil ?_)))
                exact ej_nx (k + 1, q, b, kq, cq, fp) (by first | omega | (simp only; omega)) ⟨by first | omega | (simp only; omega), he, hB.pass (seqW_get he) (fun g' hg' hl' => by
                  rw [gate_get hgk] at hg'
                  injection hg' with hg'
                  subst hg'
                  rw [hl', Bool.not_true, Bool.false_or, next_new hl'] at h82b
                  obtain ⟨v, hv⟩ := Option.isSome_iff_exists.1 h82b
                  obtain ⟨f, hf, hfe⟩ := mapL_has hv
                  exact ⟨_, mem_seqW hf, hfe⟩), hqk, hfp⟩ ⟨rfl, rfl, rfl, rfl, rfl, rfl, rfl, rfl, rfl, rfl, rfl, rfl, trivial⟩
              · have h82b := h82
                try simp only [sxb] at h82
                rw [Bool.or_eq_false_iff] at h82b
                have hld := not_f h82b.1
                have hnx := next_new hld
                have hno := h82b.2
                rw [hnx] at hno ⊢
                have hnod : (q.map (·.1)).Nodup := by rw [← seqW_keys]; exact hB.keys
                have hat := mapL_at hnod he
                have hsl := sq_len hnod (fun x hx => by have := hqk x hx; omega)
                have hql := quL_len q (p + 1)
                have hpl := (List.getElem?_eq_some_iff.1 he).1
                have hnew : ∀ f ∈ q, f.1 ≠ nextN e.1 g.n := fun f hf hfe => by
                  have h9 := mapL_some hnod hf
                  rw [hfe, hno] at h9; cases h9
                have hlt := next_lt hb hek (List.mem_map.2 ⟨g, hg, rfl⟩)
                refine cj_skip (ej_th (cj_seq (cj_region ?_)))
                refine oj_step (y_move rfl) rfl rfl rfl ?_
                refine oj_step (y_move rfl) rfl rfl rfl ?_
                refine oj_step (y_move rfl) rfl rfl rfl ?_
                refine oj_step (y_move rfl) rfl rfl rfl ?_
                refine oj_step (y_lkW wy0 hat Try.underlying99 Try.underlying3 Try.zeroValue24 rfl rfl) rfl rfl rfl ?_
                refine oj_callO (fun B d => .slice B (intsL e.2.w).length d) 3 1 enInt (intsL e.2.w) Try.call69 rfl (fun w1 hp => k_Clone (intsL e.2.w) e.2.A e.2.c w1 (sl_fp ((hp.shared _ (.head _)).1 e (get_mem he)) (fun b hb => (hp.shared _ (.head _)).2.1 b hb)) (by rw [enC]; omega)) rfl (fun A88 c88 => ?_)
                refine oj_step (y_move rfl) rfl rfl rfl ?_
                refine oj_buildSlice (cs := [.int .i64 (k : Nat)]) [.int .i64 0] Try.underlying24 Try.sizeOf3 Try.zeroValue3 rfl rfl (by kernel_rfl) (by kernel_rfl) rfl (fun b90 => ?_)
                refine oj_append  el24 (fun _ => rfl) enInt_one rfl rfl rfl (reads_lit [((k : Nat) : Int)] (fun _ => rfl) rfl) (by unfold maxLen; simp only [List.length_append, List.length_cons, List.length_nil]; omega) (by simp only [List.length_append, List.length_cons, List.length_nil]; omega) rfl (fun A91 c91 => ?_)
                rw [← ints_snoc]
                refine oj_mapUpdate (ek := ekI) (ev := evW) (kk := ((nextN e.1 g.n : Nat) : Int)) (v := ⟨A91, c91, e.2.w ++ [k]⟩) Try.underlying99 Try.underlying3 rfl rfl rfl ?_
                rw [putL_new hnew]
                refine oj_nil ?_
                refine ej_th ?_
                refine cj_get (p := ∀ b, (ow 3 1 enInt A91 c91 (intsL (e.2.w ++ [k]))).fp b → w.heap.size ≤ b) (fun w1 hp b hb => Nat.le_of_not_lt ((hp.own _ (HasOw.mem (O := _) (A := A91))).2 b hb).2) (fun hfo => ?_)
                refine cj_frzS (O' := [qu 3 (fun n : Int => .int .i64 n) b kq cq (quL q (p + 1)), mp ekI evW m37 (mapL (q ++ [(nextN e.1 g.n, ⟨A91, c91, e.2.w ++ [k]⟩)])), ownB b8 (cellsB 76 [.slice s.Ar s.rooms.length s.cr, .slice s.Ag s.gates.length s.cg, .slice s.As s.staff.length s.cs, .int .i64 (n : Nat)]), ownB b3 (cellsB 26 [.slice s.Ar s.rooms.length s.cr, .slice s.Ag s.gates.length s.cg, .slice s.As s.staff.length s.cs])]) (ow 3 1 enInt A91 c91 (intsL (e.2.w ++ [k]))) (famW (fun i => fp i ∨ (ow 3 1 enInt A91 c91 (intsL (e.2.w ++ [k]))).fp i) (q ++ [(nextN e.1 g.n, ⟨A91, c91, e.2.w ++ [k]⟩)])) (fun w1 hp e' he' => by
                  rcases List.mem_append.1 he' with h | h
                  · exact sl_fp ((hp.shared _ (.head _)).1 e' h) (fun b h => .inl h)
                  · rw [List.mem_singleton.1 h]
                    exact owSl (hp.own _ (HasOw.mem (O := _) (A := A91))).1 enInt_len (by rw [enC, List.length_append]; unfold maxLen; simp only [List.length_cons, List.length_nil]; omega) (fun b h => .inr h)) (fun b h => h.elim (fun h => .inr ⟨_, .head _, h⟩) (fun h => .inl h)) ?_
                refine cj_region ?_
                refine oj_step (y_move rfl) rfl rfl rfl ?_
                refine oj_step (y_move rfl) rfl rfl rfl ?_
                refine oj_buildSlice (cs := [.int .i64 (nextN e.1 g.n : Nat)]) [.int .i64 0] Try.underlying24 Try.sizeOf3 Try.zeroValue3 rfl rfl (by kernel_rfl) (by kernel_rfl) rfl (fun b94 => ?_)
                refine oj_quAppend (en := fun n : Int => .int .i64 n) (xs := quL q (p + 1)) (y := ((nextN e.1 g.n : Nat) : Int)) el24 (fun _ => rfl) rfl rfl (reads_lit [((nextN e.1 g.n : Nat) : Int)] (fun _ => rfl) rfl) (by omega) (by omega) rfl (fun bq kz cz => ?_)
                refine oj_step (y_assign rfl) rfl rfl rfl ?_
                refine oj_nil ?_
                refine ej_blk (ej_th ?_)
                refine cj_regionG (gj_step (y_add rfl rfl (by omega)) rfl rfl rfl (gj_step (y_move rfl) rfl rfl rfl (gj_nil ?_)))
                rw [← quL_snoc (nextN e.1 g.n) ⟨A91, c91, e.2.w ++ [k]⟩ (show p + 1 ≤ q.length by omega)]
                exact ej_nx (k + 1, q ++ [(nextN e.1 g.n, ⟨A91, c91, e.2.w ++ [k]⟩)], bq, kz, cz, fun i => fp i ∨ (ow 3 1 enInt A91 c91 (intsL (e.2.w ++ [k]))).fp i) (by first | omega | (simp only; omega)) ⟨by first | omega | (simp only; omega), by simp only; rw [List.getElem?_append_left hpl]; exact he, by
                  rw [show seqW (q ++ [(nextN e.1 g.n, ⟨A91, c91, e.2.w ++ [k]⟩)]) = seqW q ++ [(nextN e.1 g.n, e.2.w ++ [k])] from seqW_snoc _ _ _]
                  exact hB.add (seqW_get he) (gate_get hgk) hld (fun f hf => by
                    obtain ⟨f', hf', h9⟩ := seqW_mem hf
                    rw [← h9]; exact hnew f' hf'), fun x hx => by
                  rcases List.mem_append.1 hx with h | h
                  · exact hqk x h
                  · rw [List.mem_singleton.1 h]; exact hlt, fun b h => h.elim (hfp b) (hfo b)⟩ ⟨rfl, rfl, rfl, rfl, rfl, rfl, rfl, rfl, rfl, rfl, rfl, rfl, trivial⟩
            · have h57b := h57
              try simp only [sxb] at h57
              have hnod : (q.map (·.1)).Nodup := by rw [← seqW_keys]; exact hB.keys
              have hat := mapL_at hnod he
              have hsl := sq_len hnod (fun x hx => by have := hqk x hx; omega)
              have hql := quL_len q (p + 1)
              have hpl := (List.getElem?_eq_some_iff.1 he).1
              have hB2 := hB.next (seqW_get he) h51b (by rw [gates_len]; omega)
              refine cj_exit (ej_then_exit (ej_then_exit (ej_blk_hit (ej_blk ?_))))
              exact ej_nx (p + 1, q, b, kq, cq, fp) (by first | omega | (simp only; omega)) ⟨by first | omega | (simp only; omega), hB2, hqk, hfp⟩ ⟨rfl, rfl, rfl, rfl, rfl, rfl, rfl, rfl, trivial⟩
        · have h42b := h42
          try simp only [sxb] at h42
          have hql0 := quL_len q p
          obtain ⟨e1, e2⟩ := way_4 h0 (not_f h36b) (by rw [Int.toNat_natCast, Int.toNat_natCast]; exact way_none (hB.none (by unfold seqW; rw [List.length_map]; omega)))
          refine cj_exit (ej_then_exit (ej_then_exit (ej_blk_hit ?_)))
          exact ej_ct (none, q, fp) ⟨hfp, e1, e2⟩ ⟨rfl, rfl, rfl, rfl, trivial⟩
      · rintro ⟨x, q, fp⟩ ⟨hfp, hxi⟩
        dsimp only [List.cons_append, List.nil_append]
        refine cj_seq (cj_seq ?_)
        refine cj_regionG (gj_step (y_move rfl) rfl rfl rfl (gj_step (y_lss rfl rfl) rfl rfl rfl (gj_nil ?_)))
        refine ej_th ?_
        refine cj_cond rfl (fun h98 => ?_) (fun h98 => ?_)
        · have h98b := h98
          try simp only [sxb] at h98
          have hx := fnd_neg h98
          subst hx
          obtain ⟨e1, e2⟩ := hxi
          refine cj_seq ?_
          refine cj_regionG (gj_step (y_assign rfl) rfl rfl rfl (gj_step (y_assign rfl) rfl rfl rfl (gj_nil ?_)))
          refine ej_th (cj_ret (ej_then_ret (ej_noGoto_ret ?_)))
          exact ej_ret2 rfl Try.results35 rfl rfl (fun w' hp => ⟨none, 0, (by rw [e1, e2]; try rfl), hp.below, by rw [e2]; exact Res.nil⟩)
        · have h98b := h98
          try simp only [sxb] at h98
          obtain ⟨e, hx⟩ := fnd_pos h98
          subst hx
          obtain ⟨i, he, hnod, e1, e2⟩ := hxi
          have hat := mapL_at hnod he
          refine cj_skip (ej_th (cj_seq ?_))
          refine cj_regionG (gj_step (y_move rfl) rfl rfl rfl (gj_step (y_move rfl) rfl rfl rfl (gj_step (y_lkW wy0 hat Try.underlying99 Try.underlying3 Try.zeroValue24 rfl rfl) rfl rfl rfl (gj_step (y_assign rfl) rfl rfl rfl (gj_step (y_assign rfl) rfl rfl rfl (gj_nil ?_))))))
          refine ej_th (cj_ret (ej_noGoto_ret ?_))
          exact ej_ret2 rfl Try.results35 rfl rfl (fun w' hp => ⟨e.2.A, e.2.c, (by rw [e1, e2]; try rfl), hp.below, by rw [e2]; exact sl_fp ((hp.shared _ (.head _)).1 e (get_mem he)) (fun b h => ⟨hfp b h, (hp.shared _ (.head _)).2.1 b h⟩)⟩)

end Go.Proofs.Ytomidcehahdmbaa
namespace Go.Proofs.Ytomidcehahdmbaa
open Go.Sx Go.RowKit Vm
set_option maxRecDepth 20000
theorem ex_P8 : (playB exS exL)[7]? = some ⟨2, 10, 3, 0, 1⟩ := ex_P.2.2.2.2

set_option maxHeartbeats 3200000 in
theorem k_works  (w : World)  : Calls Try.prog 19 #[] w (fun e w' => e = .returned (.bool true) ∧ Grow w w') := by
  refine enter_pure (args := []) [] Try.func19 rfl (by rw [Try.ntmps19]; simp) (by simp) ?_
  refine cj_seq ?_
  refine cj_regionG (gj_step (y_assign rfl) rfl rfl rfl (gj_nil ?_))
  refine ej_th (cj_seq (cj_region ?_))
  refine oj_callR (X := { z : StrV × Nat × Nat // z.1.s = exS }) (fun z => .agg #[.slice z.1.1.Ar z.1.1.rooms.length z.1.1.cr, .slice z.1.1.Ag z.1.1.gates.length z.1.1.cg, .slice z.1.1.As z.1.1.staff.length z.1.1.cs]) (fun z => [strF (fun b => z.1.2.1 ≤ b ∧ b < z.1.2.2) z.1.1]) Try.call40 rfl (fun w1 hp => (k_strong w1).mono fun e w2 ⟨s, h1, h2, h3, h4⟩ => ⟨⟨(s, w1.heap.size, w2.heap.size), h1⟩, h2, h3, fun g hg => by
    rw [List.mem_singleton.1 hg]
    exact ⟨h4, fun b hb => .inr hb⟩⟩) rfl ?_
  rintro ⟨⟨s15, n15, m15⟩, he15⟩
  dsimp only [List.cons_append, List.nil_append] at he15 ⊢
  have hx15 := ex_V he15
  refine oj_step (y_call Try.call13 rfl (fun w hp => k_Enter s15 3 w (str_rd hp (.head _)))) rfl rfl rfl ?_
  refine oj_step (y_move rfl) rfl rfl rfl ?_
  refine oj_step (y_extract rfl rfl) rfl rfl rfl ?_
  refine oj_step (y_extract rfl rfl) rfl rfl rfl ?_
  refine oj_step (y_assign rfl) rfl rfl rfl ?_
  refine oj_step (y_assign rfl) rfl rfl rfl ?_
  refine oj_nil ?_
  refine ej_th (cj_seq ?_)
  rw [hx15.1.1, hx15.1.2]
  refine cj_region ?_
  refine oj_callR (X := { z : StrV × Nat × Nat // z.1.s = exS }) (fun z => .agg #[.slice z.1.1.Ar z.1.1.rooms.length z.1.1.cr, .slice z.1.1.Ag z.1.1.gates.length z.1.1.cg, .slice z.1.1.As z.1.1.staff.length z.1.1.cs]) (fun z => [strF (fun b => z.1.2.1 ≤ b ∧ b < z.1.2.2) z.1.1]) Try.call40 rfl (fun w1 hp => (k_strong w1).mono fun e w2 ⟨s, h1, h2, h3, h4⟩ => ⟨⟨(s, w1.heap.size, w2.heap.size), h1⟩, h2, h3, fun g hg => by
    rw [List.mem_singleton.1 hg]
    exact ⟨h4, fun b hb => .inr hb⟩⟩) rfl ?_
  rintro ⟨⟨s20, n20, m20⟩, he20⟩
  dsimp only [List.cons_append, List.nil_append] at he20 ⊢
  have hx20 := ex_V he20
  refine oj_callS (fun A c => .tuple #[.slice A (intsL (wayL s20 3 2)).length c, .int .i64 (wayE s20 3 2)]) 1 enInt (intsL (wayL s20 3 2)) Try.call35 rfl (fun w hp => k_Way s20 3 2 w (str_rd hp (.head _))) rfl (fun A21 c21 fp21 hfp21 => ?_)
  rw [hx20.2.1.1, hx20.2.1.2]
  refine oj_step (y_move rfl) rfl rfl rfl ?_
  refine oj_step (y_extract rfl rfl) rfl rfl rfl ?_
  refine oj_step (y_extract rfl rfl) rfl rfl rfl ?_
  refine oj_step (y_assign rfl) rfl rfl rfl ?_
  refine oj_step (y_assign rfl) rfl rfl rfl ?_
  refine oj_nil ?_
  refine ej_th (cj_seq (cj_region ?_))
  refine oj_callR (X := { z : StrV × Nat × Nat // z.1.s = exS }) (fun z => .agg #[.slice z.1.1.Ar z.1.1.rooms.length z.1.1.cr, .slice z.1.1.Ag z.1.1.gates.length z.1.1.cg, .slice z.1.1.As z.1.1.staff.length z.1.1.cs]) (fun z => [strF (fun b => z.1.2.1 ≤ b ∧ b < z.1.2.2) z.1.1]) Try.call40 rfl (fun w1 hp => (k_strong w1).mono fun e w2 ⟨s, h1, h2, h3, h4⟩ => ⟨⟨(s, w1.heap.size, w2.heap.size), h1⟩, h2, h3, fun g hg => by
    rw [List.mem_singleton.1 hg]
    exact ⟨h4, fun b hb => .inr hb⟩⟩) rfl ?_
  rintro ⟨⟨s25, n25, m25⟩, he25⟩
  dsimp only [List.cons_append, List.nil_append] at he25 ⊢
  have hx25 := ex_V he25
  refine oj_callS (fun A c => .tuple #[.slice A (intsL (grpsV s25 2)).length c, .int .i64 (roomE s25 2)]) 1 enInt (intsL (grpsV s25 2)) Try.call20 rfl (fun w hp => k_Groups s25 2 w (str_rd hp (.head _))) rfl (fun A26 c26 fp26 hfp26 => ?_)
  rw [hx25.2.2.1.1, hx25.2.2.1.2]
  refine oj_step (y_move rfl) rfl rfl rfl ?_
  refine oj_step (y_extract rfl rfl) rfl rfl rfl ?_
  refine oj_step (y_extract rfl rfl) rfl rfl rfl ?_
  refine oj_step (y_assign rfl) rfl rfl rfl ?_
  refine oj_step (y_assign rfl) rfl rfl rfl ?_
  refine oj_nil ?_
  refine ej_th (cj_seq (cj_region ?_))
  refine oj_callR (X := { z : StrV × Nat × Nat // z.1.s = exS }) (fun z => .agg #[.slice z.1.1.Ar z.1.1.rooms.length z.1.1.cr, .slice z.1.1.Ag z.1.1.gates.length z.1.1.cg, .slice z.1.1.As z.1.1.staff.length z.1.1.cs]) (fun z => [strF (fun b => z.1.2.1 ≤ b ∧ b < z.1.2.2) z.1.1]) Try.call40 rfl (fun w1 hp => (k_strong w1).mono fun e w2 ⟨s, h1, h2, h3, h4⟩ => ⟨⟨(s, w1.heap.size, w2.heap.size), h1⟩, h2, h3, fun g hg => by
    rw [List.mem_singleton.1 hg]
    exact ⟨h4, fun b hb => .inr hb⟩⟩) rfl ?_
  rintro ⟨⟨s30, n30, m30⟩, he30⟩
  dsimp only [List.cons_append, List.nil_append] at he30 ⊢
  have hx30 := ex_V he30
  refine oj_callS (fun A c => .tuple #[.slice A (intsL (grdsV s30 1)).length c, .int .i64 (roomE s30 1)]) 1 enInt (intsL (grdsV s30 1)) Try.call23 rfl (fun w hp => k_Guards s30 1 w (str_rd hp (.head _))) rfl (fun A31 c31 fp31 hfp31 => ?_)
  rw [hx30.2.2.2.1.1, hx30.2.2.2.1.2]
  refine oj_step (y_move rfl) rfl rfl rfl ?_
  refine oj_step (y_extract rfl rfl) rfl rfl rfl ?_
  refine oj_step (y_extract rfl rfl) rfl rfl rfl ?_
  refine oj_step (y_assign rfl) rfl rfl rfl ?_
  refine oj_step (y_assign rfl) rfl rfl rfl ?_
  refine oj_nil ?_
  refine ej_th (cj_seq (cj_seq (cj_region ?_)))
  refine oj_step (y_move rfl) rfl rfl rfl ?_
  refine oj_step (y_neq rfl rfl) rfl rfl rfl ?_
  refine oj_step (y_move rfl) rfl rfl rfl ?_
  refine oj_yes rfl rfl rfl ?_
  refine oj_step (y_move rfl) rfl rfl rfl ?_
  refine oj_yes rfl rfl rfl ?_
  refine oj_step (y_neq rfl rfl) rfl rfl rfl ?_
  refine oj_step (y_pick rfl rfl rfl) rfl rfl rfl ?_
  refine oj_step (y_move rfl) rfl rfl rfl ?_
  refine oj_yes rfl rfl rfl ?_
  refine oj_step (y_move rfl) rfl rfl rfl ?_
  refine oj_yes rfl rfl rfl ?_
  refine oj_step (y_neq rfl rfl) rfl rfl rfl ?_
  refine oj_step (y_pick rfl rfl rfl) rfl rfl rfl ?_
  refine oj_step (y_move rfl) rfl rfl rfl ?_
  refine oj_yes rfl rfl rfl ?_
  refine oj_step (y_move rfl) rfl rfl rfl ?_
  refine oj_yes rfl rfl rfl ?_
  refine oj_step (y_neq rfl rfl) rfl rfl rfl ?_
  refine oj_step (y_pick rfl rfl rfl) rfl rfl rfl ?_
  refine oj_step (y_move rfl) rfl rfl rfl ?_
  refine oj_yes rfl rfl rfl ?_
  refine oj_step (y_move rfl) rfl rfl rfl ?_
  refine oj_yes rfl rfl rfl ?_
  refine oj_step (y_neq rfl rfl) rfl rfl rfl ?_
  refine oj_step (y_pick rfl rfl rfl) rfl rfl rfl ?_
  refine oj_step (y_move rfl) rfl rfl rfl ?_
  refine oj_yes rfl rfl rfl ?_
  refine oj_step (y_move rfl) rfl rfl rfl ?_
  refine oj_yes rfl rfl rfl ?_
  refine oj_buildSlice (cs := [.int .i64 0, .int .i64 1]) [.int .i64 0, .int .i64 0] Try.underlying24 Try.sizeOf3 Try.zeroValue3 rfl rfl (by kernel_rfl) (by kernel_rfl) rfl (fun b54 => ?_)
  refine oj_yes rfl rfl rfl ?_
  refine oj_step (y_call Try.call22 rfl (fun w hp => k_Same (intsL [0, 1]) [0, 1] A21 (some ⟨b54, 0, none⟩) c21 2 w hp.rd (hp.rdLit (b := b54) (sz := 1) (enc := enInt) [0, 1] (fun _ => rfl) rfl (by unfold maxLen; simp)))) rfl rfl rfl ?_
  refine oj_yes rfl rfl rfl ?_
  refine oj_step (y_not rfl) rfl rfl rfl ?_
  refine oj_step (y_pick rfl rfl rfl) rfl rfl rfl ?_
  refine oj_step (y_move rfl) rfl rfl rfl ?_
  refine oj_yes rfl rfl rfl ?_
  refine oj_step (y_move rfl) rfl rfl rfl ?_
  refine oj_yes rfl rfl rfl ?_
  refine oj_buildSlice (cs := [.int .i64 3, .int .i64 5, .int .i64 6]) [.int .i64 0, .int .i64 0, .int .i64 0] Try.underlying24 Try.sizeOf3 Try.zeroValue3 rfl rfl (by kernel_rfl) (by kernel_rfl) rfl (fun b60 => ?_)
  refine oj_yes rfl rfl rfl ?_
  refine oj_step (y_call Try.call22 rfl (fun w hp => k_Same (intsL [3, 5, 6]) [3, 5, 6] A26 (some ⟨b60, 0, none⟩) c26 3 w hp.rd (hp.rdLit (b := b60) (sz := 1) (enc := enInt) [3, 5, 6] (fun _ => rfl) rfl (by unfold maxLen; simp)))) rfl rfl rfl ?_
  refine oj_yes rfl rfl rfl ?_
  refine oj_step (y_not rfl) rfl rfl rfl ?_
  refine oj_step (y_pick rfl rfl rfl) rfl rfl rfl ?_
  refine oj_step (y_move rfl) rfl rfl rfl ?_
  refine oj_yes rfl rfl rfl ?_
  refine oj_step (y_move rfl) rfl rfl rfl ?_
  refine oj_yes rfl rfl rfl ?_
  refine oj_buildSlice (cs := [.int .i64 5]) [.int .i64 0] Try.underlying24 Try.sizeOf3 Try.zeroValue3 rfl rfl (by kernel_rfl) (by kernel_rfl) rfl (fun b66 => ?_)
  refine oj_yes rfl rfl rfl ?_
  refine oj_step (y_call Try.call22 rfl (fun w hp => k_Same (intsL [5]) [5] A31 (some ⟨b66, 0, none⟩) c31 1 w hp.rd (hp.rdLit (b := b66) (sz := 1) (enc := enInt) [5] (fun _ => rfl) rfl (by unfold maxLen; simp)))) rfl rfl rfl ?_
  refine oj_yes rfl rfl rfl ?_
  refine oj_step (y_not rfl) rfl rfl rfl ?_
  refine oj_step (y_pick rfl rfl rfl) rfl rfl rfl ?_
  refine oj_nil ?_
  refine ej_th ?_
  refine cj_condF rfl (by decide) ?_
  refine cj_skip (ej_th (cj_seq (cj_region ?_)))
  refine oj_callR (X := { z : StrV × Nat × Nat // z.1.s = exS }) (fun z => .agg #[.slice z.1.1.Ar z.1.1.rooms.length z.1.1.cr, .slice z.1.1.Ag z.1.1.gates.length z.1.1.cg, .slice z.1.1.As z.1.1.staff.length z.1.1.cs]) (fun z => [strF (fun b => z.1.2.1 ≤ b ∧ b < z.1.2.2) z.1.1]) Try.call40 rfl (fun w1 hp => (k_strong w1).mono fun e w2 ⟨s, h1, h2, h3, h4⟩ => ⟨⟨(s, w1.heap.size, w2.heap.size), h1⟩, h2, h3, fun g hg => by
    rw [List.mem_singleton.1 hg]
    exact ⟨h4, fun b hb => .inr hb⟩⟩) rfl ?_
  rintro ⟨⟨s71, n71, m71⟩, he71⟩
  dsimp only [List.cons_append, List.nil_append] at he71 ⊢
  have hx71 := ex_V he71
  refine oj_callS (fun A c => .slice A exL.length 3) 8 encCa exL Try.call41 rfl (fun w hp => k_log w) rfl (fun A72 c72 fp72 hfp72 => ?_)
  refine oj_step (y_call Try.call30 rfl (fun w hp => k_Play s71 exL A72 3 w (str_rd hp (.tail _ (.head _))) hp.rd)) rfl rfl rfl ?_
  refine oj_step (y_move rfl) rfl rfl rfl ?_
  refine oj_step (y_extract rfl rfl) rfl rfl rfl ?_
  refine oj_step (y_extract rfl rfl) rfl rfl rfl ?_
  refine oj_step (y_extract rfl rfl) rfl rfl rfl ?_
  refine oj_alloc Try.zeroValue48 rfl rfl (fun b9 => ?_)
  rw [he71, ex_P.1.1, ex_P.1.2]
  refine oj_store (vs := ((playB exS exL).flatMap encBa)) (n := 160) (hset := set_all _ _ (by rw [bf_len (playB_len _)]; rfl)) rfl rfl rfl (bf_one _) Try.sizeOf48 (bf_len (playB_len _)) ?_
  refine oj_step (y_assign rfl) rfl rfl rfl ?_
  refine oj_step (y_assign rfl) rfl rfl rfl ?_
  refine oj_nil ?_
  refine ej_th (cj_seq (cj_region ?_))
  refine oj_callR (X := { z : StrV × Nat × Nat // z.1.s = exS }) (fun z => .agg #[.slice z.1.1.Ar z.1.1.rooms.length z.1.1.cr, .slice z.1.1.Ag z.1.1.gates.length z.1.1.cg, .slice z.1.1.As z.1.1.staff.length z.1.1.cs]) (fun z => [strF (fun b => z.1.2.1 ≤ b ∧ b < z.1.2.2) z.1.1]) Try.call40 rfl (fun w1 hp => (k_strong w1).mono fun e w2 ⟨s, h1, h2, h3, h4⟩ => ⟨⟨(s, w1.heap.size, w2.heap.size), h1⟩, h2, h3, fun g hg => by
    rw [List.mem_singleton.1 hg]
    exact ⟨h4, fun b hb => .inr hb⟩⟩) rfl ?_
  rintro ⟨⟨s78, n78, m78⟩, he78⟩
  dsimp only [List.cons_append, List.nil_append] at he78 ⊢
  have hx78 := ex_V he78
  refine oj_callS (fun A c => .slice A exL.length 3) 8 encCa exL Try.call41 rfl (fun w hp => k_log w) rfl (fun A79 c79 fp79 hfp79 => ?_)
  refine oj_step (y_call Try.call31 rfl (fun w hp => k_Where s78 exL A79 3 7 5 w (str_rd hp (.tail _ (.head _))) hp.rd (Nat.le_refl 3))) rfl rfl rfl ?_
  refine oj_step (y_move rfl) rfl rfl rfl ?_
  refine oj_step (y_extract rfl rfl) rfl rfl rfl ?_
  refine oj_step (y_extract rfl rfl) rfl rfl rfl ?_
  refine oj_step (y_assign rfl) rfl rfl rfl ?_
  refine oj_step (y_assign rfl) rfl rfl rfl ?_
  refine oj_nil ?_
  refine ej_th (cj_seq ?_)
  rw [he78, ex_P.2.1.1, ex_P.2.1.2]
  refine cj_region ?_
  refine oj_callR (X := { z : StrV × Nat × Nat // z.1.s = exS }) (fun z => .agg #[.slice z.1.1.Ar z.1.1.rooms.length z.1.1.cr, .slice z.1.1.Ag z.1.1.gates.length z.1.1.cg, .slice z.1.1.As z.1.1.staff.length z.1.1.cs]) (fun z => [strF (fun b => z.1.2.1 ≤ b ∧ b < z.1.2.2) z.1.1]) Try.call40 rfl (fun w1 hp => (k_strong w1).mono fun e w2 ⟨s, h1, h2, h3, h4⟩ => ⟨⟨(s, w1.heap.size, w2.heap.size), h1⟩, h2, h3, fun g hg => by
    rw [List.mem_singleton.1 hg]
    exact ⟨h4, fun b hb => .inr hb⟩⟩) rfl ?_
  rintro ⟨⟨s84, n84, m84⟩, he84⟩
  dsimp only [List.cons_append, List.nil_append] at he84 ⊢
  have hx84 := ex_V he84
  refine oj_callS (fun A c => .slice A exL.length 3) 8 encCa exL Try.call41 rfl (fun w hp => k_log w) rfl (fun A85 c85 fp85 hfp85 => ?_)
  refine oj_step (y_sliceTo (xs := exL) 2 Try.underlying45 Try.sizeOf52 rfl rfl (by decide) (by decide)) rfl rfl rfl ?_
  refine oj_callS (fun A c => .tuple #[.slice A (intsL (suspV s84.s (exL.take 2) 7)).length c, .int .i64 (suspE s84.s (exL.take 2) 7)]) 1 enInt (intsL (suspV s84.s (exL.take 2) 7)) Try.call34 rfl (fun w hp => k_Suspects s84 (exL.take 2) A85 3 7 w (str_rd hp (.tail _ (.head _))) (sl_take hp.rd 2) (by decide)) rfl (fun A87 c87 fp87 hfp87 => ?_)
  rw [he84, ex_P.2.2.1, ex_P.2.2.2.1]
  refine oj_step (y_move rfl) rfl rfl rfl ?_
  refine oj_step (y_extract rfl rfl) rfl rfl rfl ?_
  refine oj_step (y_extract rfl rfl) rfl rfl rfl ?_
  refine oj_step (y_assign rfl) rfl rfl rfl ?_
  refine oj_step (y_assign rfl) rfl rfl rfl ?_
  refine oj_nil ?_
  refine ej_th (cj_seq (cj_region ?_))
  refine oj_callR (X := { z : StrV × Nat × Nat // z.1.s = exS }) (fun z => .agg #[.slice z.1.1.Ar z.1.1.rooms.length z.1.1.cr, .slice z.1.1.Ag z.1.1.gates.length z.1.1.cg, .slice z.1.1.As z.1.1.staff.length z.1.1.cs]) (fun z => [strF (fun b => z.1.2.1 ≤ b ∧ b < z.1.2.2) z.1.1]) Try.call40 rfl (fun w1 hp => (k_strong w1).mono fun e w2 ⟨s, h1, h2, h3, h4⟩ => ⟨⟨(s, w1.heap.size, w2.heap.size), h1⟩, h2, h3, fun g hg => by
    rw [List.mem_singleton.1 hg]
    exact ⟨h4, fun b hb => .inr hb⟩⟩) rfl ?_
  rintro ⟨⟨s91, n91, m91⟩, he91⟩
  dsimp only [List.cons_append, List.nil_append] at he91 ⊢
  have hx91 := ex_V he91
  refine oj_step (y_call Try.call17 rfl (fun w hp => k_Closed s91 1 3 w (str_rd hp (.head _)))) rfl rfl rfl ?_
  refine oj_step (y_move rfl) rfl rfl rfl ?_
  refine oj_step (y_extract rfl rfl) rfl rfl rfl ?_
  refine oj_step (y_extract rfl rfl) rfl rfl rfl ?_
  refine oj_step (y_assign rfl) rfl rfl rfl ?_
  refine oj_step (y_assign rfl) rfl rfl rfl ?_
  refine oj_nil ?_
  refine ej_th (cj_seq ?_)
  rw [hx91.2.2.2.2.1, hx91.2.2.2.2.2]
  refine cj_region ?_
  refine oj_step (y_move rfl) rfl rfl rfl ?_
  refine oj_step (y_eql rfl rfl) rfl rfl rfl ?_
  refine oj_step (y_move rfl) rfl rfl rfl ?_
  refine oj_yes rfl rfl rfl ?_
  refine oj_step (y_move rfl) rfl rfl rfl ?_
  refine oj_yes rfl rfl rfl ?_
  refine oj_step (y_eql rfl rfl) rfl rfl rfl ?_
  refine oj_step (y_pick rfl rfl rfl) rfl rfl rfl ?_
  refine oj_step (y_move rfl) rfl rfl rfl ?_
  refine oj_yes rfl rfl rfl ?_
  refine oj_step (y_move rfl) rfl rfl rfl ?_
  refine oj_yes rfl rfl rfl ?_
  refine oj_step (y_eql rfl rfl) rfl rfl rfl ?_
  refine oj_step (y_pick rfl rfl rfl) rfl rfl rfl ?_
  refine oj_step (y_move rfl) rfl rfl rfl ?_
  refine oj_yes rfl rfl rfl ?_
  refine oj_step (y_move rfl) rfl rfl rfl ?_
  refine oj_yes rfl rfl rfl ?_
  refine oj_step (y_eql rfl rfl) rfl rfl rfl ?_
  refine oj_step (y_pick rfl rfl rfl) rfl rfl rfl ?_
  refine oj_step (y_move rfl) rfl rfl rfl ?_
  refine oj_yes rfl rfl rfl ?_
  refine oj_step (y_move rfl) rfl rfl rfl ?_
  refine oj_yes rfl rfl rfl ?_
  refine oj_step (y_eql rfl rfl) rfl rfl rfl ?_
  refine oj_step (y_pick rfl rfl rfl) rfl rfl rfl ?_
  refine oj_step (y_move rfl) rfl rfl rfl ?_
  refine oj_yes rfl rfl rfl ?_
  refine oj_step (y_ixArrC 35 Try.underlying48 Try.sizeOf47 rfl rfl (by decide) (by decide)) rfl rfl rfl ?_
  refine oj_yes rfl rfl rfl ?_
  refine oj_step (y_loadN (hv := tk_bag (i := 7) ex_P8) Try.isAgg47 Try.sizeOf47 rfl) rfl rfl rfl ?_
  refine oj_yes rfl rfl rfl ?_
  refine oj_step (y_build (cs := [.int .i64 2, .int .i64 10, .int .i64 3, .int .i64 0, .int .i64 1]) st47 rfl (by kernel_rfl)) rfl rfl rfl ?_
  refine oj_yes rfl rfl rfl ?_
  refine oj_step (y_bin rfl rfl (fun x y w => eq47 _ _ _ _ _ _ _ _ _ _ x y w)) rfl rfl rfl ?_
  refine oj_step (y_pick rfl rfl rfl) rfl rfl rfl ?_
  refine oj_step (y_move rfl) rfl rfl rfl ?_
  refine oj_yes rfl rfl rfl ?_
  refine oj_step (y_move rfl) rfl rfl rfl ?_
  refine oj_yes rfl rfl rfl ?_
  refine oj_step (y_eql rfl rfl) rfl rfl rfl ?_
  refine oj_step (y_pick rfl rfl rfl) rfl rfl rfl ?_
  refine oj_step (y_move rfl) rfl rfl rfl ?_
  refine oj_yes rfl rfl rfl ?_
  refine oj_step (y_move rfl) rfl rfl rfl ?_
  refine oj_yes rfl rfl rfl ?_
  refine oj_buildSlice (cs := [.int .i64 1, .int .i64 4]) [.int .i64 0, .int .i64 0] Try.underlying24 Try.sizeOf3 Try.zeroValue3 rfl rfl (by kernel_rfl) (by kernel_rfl) rfl (fun b125 => ?_)
  refine oj_yes rfl rfl rfl ?_
  refine oj_step (y_call Try.call22 rfl (fun w hp => k_Same (intsL [1, 4]) [1, 4] A87 (some ⟨b125, 0, none⟩) c87 2 w hp.rd (hp.rdLit (b := b125) (sz := 1) (enc := enInt) [1, 4] (fun _ => rfl) rfl (by unfold maxLen; simp)))) rfl rfl rfl ?_
  refine oj_step (y_pick rfl rfl rfl) rfl rfl rfl ?_
  refine oj_step (y_move rfl) rfl rfl rfl ?_
  refine oj_yes rfl rfl rfl ?_
  refine oj_step (y_move rfl) rfl rfl rfl ?_
  refine oj_step (y_pick rfl rfl rfl) rfl rfl rfl ?_
  refine oj_step (y_assign rfl) rfl rfl rfl ?_
  refine oj_nil ?_
  refine ej_th (cj_ret ?_)
  exact ej_ret1 rfl Try.results19 rfl (fun w' hp => ⟨rfl, hp.below⟩)

end Go.Proofs.Ytomidcehahdmbaa
