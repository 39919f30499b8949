/- Texts of ours, joined: 3 of them. Conditions: none. -/
import Derived.Test.YtomidcehahdmbaaZh
import Derived.Test.YtomidcehahdmbaaProg
import Derived.Laws.StructEq
namespace Go.Proofs.Ytomidcehahdmbaa
open Go.Sx Go.RowKit Vm
set_option maxRecDepth 20000
set_option maxHeartbeats 1600000 in
theorem k_rway (s : StrV) (n m : Nat) (hb : strB s.s = true) (hn : n < 64) (hm : m ≤ 6) : ∀ (d r : Nat) (l : List Nat) (A : Option Addr) (c : Nat) (fp : Nat → Prop) (w : World), StrRd w s → (sl fp 1 enInt A (intsL l)).P w → (∀ b, fp b → b < w.heap.size) → r < 2 ^ s.rooms.length → l.length + d ≤ 100 →
    Calls Try.prog 70 #[.agg #[.slice s.Ar s.rooms.length s.cr, .slice s.Ag s.gates.length s.cg, .slice s.As s.staff.length s.cs, .int .i64 (n : Nat), .int .i64 (m : Nat)], .slice A (intsL l).length c, .int .i64 (r : Nat), .int .i64 (d : Nat)] w (fun e w' => ∃ x : Option Addr × Nat × List Nat, e = .returned (.tuple #[.slice x.1 (intsL x.2.2).length x.2.1, .bool (dfs s.s n m d r).isSome]) ∧ Grow w w' ∧ (sl (fun b => fp b ∨ (w.heap.size ≤ b ∧ b < w'.heap.size)) 1 enInt x.1 (intsL x.2.2)).P w' ∧ ∀ l', dfs s.s n m d r = some l' → x.2.2 = l ++ l') := by
  intro d
  induction d using Nat.strongRecOn with
  | _ d ih =>
  intro r l A c fp w hs hl hfp hr hld
  have hok := StrOk.of hb
  have hnr := hok.nr
  have hng := hok.ng
  have hns := hok.ns
  have hr64 : r < 64 := Nat.lt_of_lt_of_le hr (pow_le64 hnr.2)
  have hel := enC l
  refine enter_pure (args := [.agg #[.slice s.Ar s.rooms.length s.cr, .slice s.Ag s.gates.length s.cg, .slice s.As s.staff.length s.cs, .int .i64 (n : Nat), .int .i64 (m : Nat)], .slice A (intsL l).length c, .int .i64 (r : Nat), .int .i64 (d : Nat)]) [sl (fun b => b < w.heap.size) 3 encRo s.Ar s.rooms, sl (fun b => b < w.heap.size) 4 encGa s.Ag s.gates, sl (fun b => b < w.heap.size) 1 enInt s.As s.staff, sl fp 1 enInt A (intsL l)] Try.func70 rfl (by rw [Try.ntmps70]; simp) (fun g hg => by
    simp only [List.mem_cons, List.mem_nil_iff, or_false] at hg
    rcases hg with rfl | rfl | rfl | rfl
    · exact ⟨hs.rooms, fun _ h => h⟩
    · exact ⟨hs.gates, fun _ h => h⟩
    · exact ⟨hs.staff, fun _ h => h⟩
    · exact ⟨hl, hfp⟩) ?_
  refine cj_seq (cj_region ?_)
  refine oj_box rfl rfl rfl (fun b4 => ?_)
  refine oj_step (y_assign rfl) rfl rfl rfl ?_
  refine oj_step (y_assign rfl) rfl rfl rfl ?_
  refine oj_nil ?_
  refine ej_th (cj_seq (cj_seq ?_))
  refine cj_regionG (gj_step (y_move rfl) rfl rfl rfl (gj_step (y_eql rfl rfl) rfl rfl rfl (gj_nil ?_)))
  refine ej_th ?_
  refine cj_cond rfl (fun h14 => ?_) (fun h14 => ?_)
  · have h14b := h14
    try simp only [sxb] at h14
    have hd0 : d = 0 := by simpa using h14
    subst hd0
    refine cj_seq ?_
    refine cj_regionG ?_
    refine gj_step (y_move rfl) rfl rfl rfl (gj_step (y_move rfl) rfl rfl rfl (gj_step (y_fa fa102_2 rfl) rfl rfl rfl (gj_step (y_load1 Try.isAgg3 rfl rfl) rfl rfl rfl (?_))))
    refine gj_step (y_call Try.call29 rfl (fun w hp => k_Bit r m w (by omega))) rfl rfl rfl ?_
    refine gj_step (y_assign rfl) rfl rfl rfl (gj_step (y_assign rfl) rfl rfl rfl (?_))
    refine gj_nil ?_
    refine ej_th (cj_ret (ej_then_ret ?_))
    exact ej_ret2 rfl Try.results70 rfl rfl (fun w' hp => ⟨(A, c, l), by rw [dfs_0]; cases r.testBit m <;> rfl, hp.below, sl_fp (hp.shared _ (.tail _ (.tail _ (.tail _ (.head _))))).1 (fun b h => .inl h), fun l' hl' => by
      rw [dfs_0] at hl'
      cases hbt : r.testBit m with
      | false => rw [hbt] at hl'; simp at hl'
      | true =>
        rw [hbt, if_pos rfl] at hl'
        injection hl' with hl'
        rw [← hl', List.append_nil]⟩)
  · have h14b := h14
    try simp only [sxb] at h14
    have hd0 : d ≠ 0 := by simpa using h14
    obtain ⟨d, rfl⟩ : ∃ d0, d = d0 + 1 := ⟨d - 1, by omega⟩
    refine cj_skip (ej_th (cj_seq (cj_seq ?_)))
    refine cj_regionG (gj_step (y_assign rfl) rfl rfl rfl (gj_nil ?_))
    refine ej_th (cj_block ?_)
    refine cj_lpi (X := Nat) [(1, _), (2, _), (3, _), (4, _)] (fun k => k ≤ s.gates.length ∧ ((List.range s.gates.length).drop k).findSome? (dfsF s n m d r) = ((List.range s.gates.length).drop 0).findSome? (dfsF s n m d r)) (fun k => [(10, .int .i64 (k : Nat))]) (fun k => [ownB b4 (cellsB 102 [.slice s.Ar s.rooms.length s.cr, .slice s.Ag s.gates.length s.cg, .slice s.As s.staff.length s.cs, .int .i64 (n : Nat), .int .i64 (m : Nat)])]) (fun k => [sl (fun b => b < w.heap.size) 3 encRo s.Ar s.rooms, sl (fun b => b < w.heap.size) 4 encGa s.Ag s.gates, sl (fun b => b < w.heap.size) 1 enInt s.As s.staff, sl fp 1 enInt A (intsL l)]) (fun k => s.gates.length - k) 0 (⟨Nat.zero_le _, rfl⟩) ⟨rfl, rfl, rfl, rfl, rfl, trivial⟩ ?_
    rintro k ⟨hk, hsk⟩
    dsimp only [List.cons_append, List.nil_append]
    refine cj_seq (cj_seq ?_)
    refine cj_regionG (gj_step (y_move rfl) rfl rfl rfl (gj_step (y_fa0 fa102_0 rfl) rfl rfl rfl (gj_step (y_fa fa26_1 rfl) rfl rfl rfl (gj_step (y_load1 Try.isAgg23 rfl rfl) rfl rfl rfl (gj_step (y_lenA Try.underlying23 rfl) rfl rfl rfl (gj_step (y_lss rfl rfl) rfl rfl rfl (gj_nil ?_)))))))
    refine ej_th ?_
    refine cj_cond rfl (fun h25 => ?_) (fun h25 => ?_)
    · have h25b := h25
      try simp only [sxb] at h25
      obtain ⟨g, hgk⟩ : ∃ g, s.gates[k]? = some g := ⟨_, List.getElem?_eq_getElem (by omega)⟩
      have hg := List.mem_of_getElem? hgk
      rw [dfs_step (by omega)] at hsk
      refine cj_skip (ej_th (cj_seq (cj_block (cj_seq (cj_seq ?_)))))
      refine cj_regionG ?_
      refine gj_step (y_fa0 fa102_0 rfl) rfl rfl rfl (gj_step (y_loadN Try.isAgg26 Try.sizeOf26 rfl) rfl rfl rfl (gj_step (y_fa fa102_1 rfl) rfl rfl rfl (gj_step (y_load1 Try.isAgg3 rfl rfl) rfl rfl rfl (gj_step (y_move rfl) rfl rfl rfl (gj_step (y_move rfl) rfl rfl rfl (?_))))))
      refine gj_step (y_call Try.call56 rfl (fun w hp => k_rleads s n r k g w (hs.mono hp.below) hok hn hgk)) rfl rfl rfl ?_
      refine gj_step (y_not rfl) rfl rfl rfl (?_)
      refine gj_nil ?_
      refine ej_th ?_
      refine cj_cond rfl (fun h35 => ?_) (fun h35 => ?_)
      · have h35b := h35
        try simp only [sxb] at h35
        rw [dfsF_no hgk (not_t h35b)] at hsk
        refine cj_exit (ej_then_exit (ej_blk_hit (ej_th ?_)))
        refine cj_regionG (gj_step (y_move rfl) rfl rfl rfl (gj_step (y_add rfl rfl (by omega)) rfl rfl rfl (gj_step (y_assign rfl) rfl rfl rfl (gj_nil ?_))))
        exact ej_nx (k + 1) (by omega) ⟨by omega, hsk⟩ ⟨rfl, rfl, rfl, rfl, rfl, trivial⟩
      · have h35b := h35
        try simp only [sxb] at h35
        have hld := not_f h35b
        rw [dfsF_yes hgk hld] at hsk
        have hlt := next_lt hb hr (List.mem_map.2 ⟨g, hg, rfl⟩)
        refine cj_skip (ej_th (cj_seq ?_))
        refine cj_plan 19 (by kernel_rfl) (by kernel_rfl) ?_
        refine pl_y 0 rfl (y_loadN Try.isAgg102 Try.sizeOf102 rfl) rfl rfl rfl rfl (by kernel_rfl) ?_
        refine pl_y 1 rfl (y_move rfl) rfl rfl rfl rfl (by kernel_rfl) ?_
        refine pl_y 3 rfl (y_move rfl) rfl rfl rfl rfl (by kernel_rfl) ?_
        refine pl_y 6 rfl (y_fa0 fa102_0 rfl) rfl rfl rfl rfl (by kernel_rfl) ?_
        refine pl_y 7 rfl (y_loadN Try.isAgg26 Try.sizeOf26 rfl) rfl rfl rfl rfl (by kernel_rfl) ?_
        refine pl_y 8 rfl (y_move rfl) rfl rfl rfl rfl (by kernel_rfl) ?_
        refine pl_y 9 rfl (y_move rfl) rfl rfl rfl rfl (by kernel_rfl) ?_
        refine pl_y 11 rfl (y_move rfl) rfl rfl rfl rfl (by kernel_rfl) ?_
        refine pl_y 12 rfl (y_sub rfl rfl (by omega)) rfl rfl rfl rfl (by kernel_rfl) ?_
        refine pl_w2 2 4 (by kernel_rfl) rfl rfl (pl_fire rfl rfl rfl (by kernel_rfl) ?_) (pl_fire rfl rfl rfl (by kernel_rfl) ?_)
        · refine oj_callO (fun B d => .slice B (intsL l).length d) 3 1 enInt (intsL l) Try.call26 rfl (fun w hp => k_Own (intsL l) A c w hp.rd (by omega)) rfl (fun A39 c39 => ?_)
          refine oj_nil ?_
          refine ej_pl (lt_y (y_sub rfl rfl (by omega)) rfl (lt_y (y_move rfl) rfl (lt_y (y_move rfl) rfl (lt_y (y_move rfl) rfl (lt_y (y_loadN Try.isAgg26 Try.sizeOf26 rfl) rfl (lt_y (y_fa0 fa102_0 rfl) rfl (lt_y (y_move rfl) rfl (lt_w (by kernel_rfl) (lt_y (y_loadN Try.isAgg102 Try.sizeOf102 rfl) rfl (lt_nil)))))))))) ?_
          refine pl_w1 4 (by kernel_rfl) rfl rfl (pl_fire rfl rfl rfl (by kernel_rfl) ?_)
          refine oj_buildSlice (cs := [.int .i64 (k : Nat)]) [.int .i64 0] Try.underlying24 Try.sizeOf3 Try.zeroValue3 rfl rfl (by kernel_rfl) (by kernel_rfl) rfl (fun b41 => ?_)
          refine oj_nil ?_
          refine ej_pl (lt_y (y_sub rfl rfl (by omega)) rfl (lt_y (y_move rfl) rfl (lt_y (y_move rfl) rfl (lt_y (y_move rfl) rfl (lt_y (y_loadN Try.isAgg26 Try.sizeOf26 rfl) rfl (lt_y (y_fa0 fa102_0 rfl) rfl (lt_w (by kernel_rfl) (lt_y (y_move rfl) rfl (lt_y (y_loadN Try.isAgg102 Try.sizeOf102 rfl) rfl (lt_nil)))))))))) ?_
          refine pl_w1 5 (by kernel_rfl) rfl rfl (pl_fire rfl rfl rfl (by kernel_rfl) ?_)
          refine oj_append  el24 (fun _ => rfl) enInt_one rfl rfl rfl (reads_lit [((k : Nat) : Int)] (fun _ => rfl) rfl) (by unfold maxLen; simp only [List.length_append, List.length_cons, List.length_nil]; omega) (by simp only [List.length_append, List.length_cons, List.length_nil]; omega) rfl (fun A42 c42 => ?_)
          refine oj_nil ?_
          refine ej_pl (lt_y (y_sub rfl rfl (by omega)) rfl (lt_y (y_move rfl) rfl (lt_y (y_move rfl) rfl (lt_y (y_move rfl) rfl (lt_y (y_loadN Try.isAgg26 Try.sizeOf26 rfl) rfl (lt_y (y_fa0 fa102_0 rfl) rfl (lt_y (y_move rfl) rfl (lt_y (y_move rfl) rfl (lt_y (y_loadN Try.isAgg102 Try.sizeOf102 rfl) rfl (lt_nil)))))))))) ?_
          refine pl_y 10 rfl (y_call Try.call71 rfl (fun w hp => k_both s r k g w (hs.mono hp.below) hok hr64 hgk)) rfl rfl rfl rfl (by kernel_rfl) ?_
          refine pl_w1 13 (by kernel_rfl) rfl rfl (pl_fire rfl rfl rfl (by kernel_rfl) ?_)
          refine oj_get (p := ∀ b, (ow 3 1 enInt A42 c42 (intsL l ++ [((k : Nat) : Int)])).fp b → w.heap.size ≤ b) (fun w1 hp b hb => Nat.le_of_not_lt ((hp.own _ (HasOw.mem (O := _) (A := A42))).2 b hb).2) (fun hfo => ?_)
          refine oj_frzS (O' := [ownB b4 (cellsB 102 [.slice s.Ar s.rooms.length s.cr, .slice s.Ag s.gates.length s.cg, .slice s.As s.staff.length s.cs, .int .i64 (n : Nat), .int .i64 (m : Nat)])]) (ow 3 1 enInt A42 c42 (intsL l ++ [((k : Nat) : Int)])) (sl (fun b => (ow 3 1 enInt A42 c42 (intsL l ++ [((k : Nat) : Int)])).fp b) 1 enInt A42 (intsL (l ++ [k]))) (fun w1 hp => by rw [ints_snoc]; exact owSl (hp.own _ (HasOw.mem (O := _) (A := A42))).1 enInt_len (by rw [List.length_append, hel]; unfold maxLen; simp only [List.length_cons, List.length_nil]; omega) (fun b h => h)) (fun b h => .inl h) ?_
          refine oj_callR (X := { z : (Option Addr × Nat × List Nat × Nat × Nat) // w.heap.size ≤ z.2.2.2.1 ∧ ∀ l', dfs s.s n m d (nextN r g.n) = some l' → z.2.2.1 = (l ++ [k]) ++ l' }) (fun z => .tuple #[.slice z.1.1 (intsL z.1.2.2.1).length z.1.2.1, .bool (dfs s.s n m d (nextN r g.n)).isSome]) (fun z => [sl (fun b => (ow 3 1 enInt A42 c42 (intsL l ++ [((k : Nat) : Int)])).fp b ∨ (z.1.2.2.2.1 ≤ b ∧ b < z.1.2.2.2.2)) 1 enInt z.1.1 (intsL z.1.2.2.1)]) Try.call70 rfl (fun w1 hp => by
            have h9 := ih d (by omega) (nextN r g.n) (l ++ [k]) A42 c42 (fun b => (ow 3 1 enInt A42 c42 (intsL l ++ [((k : Nat) : Int)])).fp b) w1 (hs.mono hp.below) (hp.shared _ (.head _)).1 (hp.shared _ (.head _)).2.1 hlt (by simp only [List.length_append, List.length_cons, List.length_nil]; omega)
            rw [ints_snoc] at h9
            rw [show (((d + 1 : Nat) : Int) - 1) = (d : Nat) by omega]
            exact h9.mono fun e w2 ⟨x, he, hg, hP, hl'⟩ => ⟨⟨(x.1, x.2.1, x.2.2, w1.heap.size, w2.heap.size), hp.size, hl'⟩, he, hg, fun f hf => by
              rw [List.mem_singleton.1 hf]
              exact ⟨hP, fun b hb => hb.elim (fun h => .inl ⟨_, .head _, h⟩) (fun h => .inr h)⟩⟩) rfl ?_
          rintro ⟨⟨A50, c50, l50, n1, n2⟩, hn1, hl50⟩
          dsimp only [List.cons_append, List.nil_append] at hn1 hl50 ⊢
          refine oj_nil ?_
          refine ej_pl (lt_w (by kernel_rfl) (lt_w (by kernel_rfl) (lt_y (y_move rfl) rfl (lt_y (y_move rfl) rfl (lt_y (y_move rfl) rfl (lt_y (y_loadN Try.isAgg26 Try.sizeOf26 rfl) rfl (lt_y (y_fa0 fa102_0 rfl) rfl (lt_y (y_move rfl) rfl (lt_y (y_move rfl) rfl (lt_w (by kernel_rfl) (lt_nil))))))))))) ?_
          refine pl_y 14 rfl (y_move rfl) rfl rfl rfl rfl (by kernel_rfl) ?_
          refine pl_y 15 rfl (y_extract rfl rfl) rfl rfl rfl rfl (by kernel_rfl) ?_
          refine pl_y 16 rfl (y_extract rfl rfl) rfl rfl rfl rfl (by kernel_rfl) ?_
          refine pl_y 17 rfl (y_assign rfl) rfl rfl rfl rfl (by kernel_rfl) ?_
          refine pl_y 18 rfl (y_assign rfl) rfl rfl rfl rfl (by kernel_rfl) ?_
          refine pl_end (by kernel_rfl) ?_
          refine ej_th (cj_seq ?_)
          refine cj_regionG (gj_step (y_move rfl) rfl rfl rfl (gj_nil ?_))
          refine ej_th ?_
          refine cj_cond rfl (fun h53 => ?_) (fun h53 => ?_)
          · have h53b := h53
            try simp only [sxb] at h53
            obtain ⟨l2, hl2⟩ := Option.isSome_iff_exists.1 h53b
            have hle := hl50 l2 hl2
            rw [hl2] at hsk
            have hsk2 : dfs s.s n m (d + 1) r = some (k :: l2) := by rw [dfs_S, ← hsk]; rfl
            refine cj_seq ?_
            refine cj_regionG (gj_step (y_move rfl) rfl rfl rfl (gj_step (y_assign rfl) rfl rfl rfl (gj_step (y_assign rfl) rfl rfl rfl (gj_nil ?_))))
            refine ej_th (cj_ret (ej_blk_ret (ej_then_ret (ej_then_ret (ej_blk_ret (ej_then_ret ?_))))))
            exact ej_ret2 rfl Try.results70 rfl rfl (fun w' hp => ⟨(A50, c50, l50), by rw [hsk2]; rfl, hp.below, sl_fp (hp.shared _ (.head _)).1 (fun b h => .inr ⟨h.elim (hfo b) (fun h => Nat.le_trans hn1 h.1), (hp.shared _ (.head _)).2.1 b h⟩), fun l' hl' => by
              rw [hsk2] at hl'
              injection hl' with hl'
              rw [hle, ← hl', List.append_assoc]; rfl⟩)
          · have h53b := h53
            try simp only [sxb] at h53
            rw [Option.isSome_eq_false_iff, Option.isNone_iff_eq_none] at h53b
            rw [h53b] at hsk
            refine cj_skip (ej_blk (ej_th ?_))
            refine cj_regionG (gj_step (y_move rfl) rfl rfl rfl (gj_step (y_add rfl rfl (by omega)) rfl rfl rfl (gj_step (y_assign rfl) rfl rfl rfl (gj_nil ?_))))
            exact ej_nx (k + 1) (by omega) ⟨by omega, hsk⟩ ⟨rfl, rfl, rfl, rfl, rfl, trivial⟩
        · refine oj_buildSlice (cs := [.int .i64 (k : Nat)]) [.int .i64 0] Try.underlying24 Try.sizeOf3 Try.zeroValue3 rfl rfl (by kernel_rfl) (by kernel_rfl) rfl (fun b41 => ?_)
          refine oj_nil ?_
          refine ej_pl (lt_y (y_sub rfl rfl (by omega)) rfl (lt_y (y_move rfl) rfl (lt_y (y_move rfl) rfl (lt_y (y_move rfl) rfl (lt_y (y_loadN Try.isAgg26 Try.sizeOf26 rfl) rfl (lt_y (y_fa0 fa102_0 rfl) rfl (lt_w (by kernel_rfl) (lt_y (y_move rfl) rfl (lt_y (y_loadN Try.isAgg102 Try.sizeOf102 rfl) rfl (lt_nil)))))))))) ?_
          refine pl_w1 2 (by kernel_rfl) rfl rfl (pl_fire rfl rfl rfl (by kernel_rfl) ?_)
          refine oj_callO (fun B d => .slice B (intsL l).length d) 3 1 enInt (intsL l) Try.call26 rfl (fun w hp => k_Own (intsL l) A c w hp.rd (by omega)) rfl (fun A39 c39 => ?_)
          refine oj_nil ?_
          refine ej_pl (lt_y (y_sub rfl rfl (by omega)) rfl (lt_y (y_move rfl) rfl (lt_y (y_move rfl) rfl (lt_y (y_move rfl) rfl (lt_y (y_loadN Try.isAgg26 Try.sizeOf26 rfl) rfl (lt_y (y_fa0 fa102_0 rfl) rfl (lt_y (y_move rfl) rfl (lt_w (by kernel_rfl) (lt_y (y_loadN Try.isAgg102 Try.sizeOf102 rfl) rfl (lt_nil)))))))))) ?_
          refine pl_w1 5 (by kernel_rfl) rfl rfl (pl_fire rfl rfl rfl (by kernel_rfl) ?_)
          refine oj_append  el24 (fun _ => rfl) enInt_one rfl rfl rfl (reads_lit [((k : Nat) : Int)] (fun _ => rfl) rfl) (by unfold maxLen; simp only [List.length_append, List.length_cons, List.length_nil]; omega) (by simp only [List.length_append, List.length_cons, List.length_nil]; omega) rfl (fun A42 c42 => ?_)
          refine oj_nil ?_
          refine ej_pl (lt_y (y_sub rfl rfl (by omega)) rfl (lt_y (y_move rfl) rfl (lt_y (y_move rfl) rfl (lt_y (y_move rfl) rfl (lt_y (y_loadN Try.isAgg26 Try.sizeOf26 rfl) rfl (lt_y (y_fa0 fa102_0 rfl) rfl (lt_y (y_move rfl) rfl (lt_y (y_move rfl) rfl (lt_y (y_loadN Try.isAgg102 Try.sizeOf102 rfl) rfl (lt_nil)))))))))) ?_
          refine pl_y 10 rfl (y_call Try.call71 rfl (fun w hp => k_both s r k g w (hs.mono hp.below) hok hr64 hgk)) rfl rfl rfl rfl (by kernel_rfl) ?_
          refine pl_w1 13 (by kernel_rfl) rfl rfl (pl_fire rfl rfl rfl (by kernel_rfl) ?_)
          refine oj_get (p := ∀ b, (ow 3 1 enInt A42 c42 (intsL l ++ [((k : Nat) : Int)])).fp b → w.heap.size ≤ b) (fun w1 hp b hb => Nat.le_of_not_lt ((hp.own _ (HasOw.mem (O := _) (A := A42))).2 b hb).2) (fun hfo => ?_)
          refine oj_frzS (O' := [ownB b4 (cellsB 102 [.slice s.Ar s.rooms.length s.cr, .slice s.Ag s.gates.length s.cg, .slice s.As s.staff.length s.cs, .int .i64 (n : Nat), .int .i64 (m : Nat)])]) (ow 3 1 enInt A42 c42 (intsL l ++ [((k : Nat) : Int)])) (sl (fun b => (ow 3 1 enInt A42 c42 (intsL l ++ [((k : Nat) : Int)])).fp b) 1 enInt A42 (intsL (l ++ [k]))) (fun w1 hp => by rw [ints_snoc]; exact owSl (hp.own _ (HasOw.mem (O := _) (A := A42))).1 enInt_len (by rw [List.length_append, hel]; unfold maxLen; simp only [List.length_cons, List.length_nil]; omega) (fun b h => h)) (fun b h => .inl h) ?_
          refine oj_callR (X := { z : (Option Addr × Nat × List Nat × Nat × Nat) // w.heap.size ≤ z.2.2.2.1 ∧ ∀ l', dfs s.s n m d (nextN r g.n) = some l' → z.2.2.1 = (l ++ [k]) ++ l' }) (fun z => .tuple #[.slice z.1.1 (intsL z.1.2.2.1).length z.1.2.1, .bool (dfs s.s n m d (nextN r g.n)).isSome]) (fun z => [sl (fun b => (ow 3 1 enInt A42 c42 (intsL l ++ [((k : Nat) : Int)])).fp b ∨ (z.1.2.2.2.1 ≤ b ∧ b < z.1.2.2.2.2)) 1 enInt z.1.1 (intsL z.1.2.2.1)]) Try.call70 rfl (fun w1 hp => by
            have h9 := ih d (by omega) (nextN r g.n) (l ++ [k]) A42 c42 (fun b => (ow 3 1 enInt A42 c42 (intsL l ++ [((k : Nat) : Int)])).fp b) w1 (hs.mono hp.below) (hp.shared _ (.head _)).1 (hp.shared _ (.head _)).2.1 hlt (by simp only [List.length_append, List.length_cons, List.length_nil]; omega)
            rw [ints_snoc] at h9
            rw [show (((d + 1 : Nat) : Int) - 1) = (d : Nat) by omega]
            exact h9.mono fun e w2 ⟨x, he, hg, hP, hl'⟩ => ⟨⟨(x.1, x.2.1, x.2.2, w1.heap.size, w2.heap.size), hp.size, hl'⟩, he, hg, fun f hf => by
              rw [List.mem_singleton.1 hf]
              exact ⟨hP, fun b hb => hb.elim (fun h => .inl ⟨_, .head _, h⟩) (fun h => .inr h)⟩⟩) rfl ?_
          rintro ⟨⟨A50, c50, l50, n1, n2⟩, hn1, hl50⟩
          dsimp only [List.cons_append, List.nil_append] at hn1 hl50 ⊢
          refine oj_nil ?_
          refine ej_pl (lt_w (by kernel_rfl) (lt_w (by kernel_rfl) (lt_y (y_move rfl) rfl (lt_y (y_move rfl) rfl (lt_y (y_move rfl) rfl (lt_y (y_loadN Try.isAgg26 Try.sizeOf26 rfl) rfl (lt_y (y_fa0 fa102_0 rfl) rfl (lt_y (y_move rfl) rfl (lt_y (y_move rfl) rfl (lt_w (by kernel_rfl) (lt_nil))))))))))) ?_
          refine pl_y 14 rfl (y_move rfl) rfl rfl rfl rfl (by kernel_rfl) ?_
          refine pl_y 15 rfl (y_extract rfl rfl) rfl rfl rfl rfl (by kernel_rfl) ?_
          refine pl_y 16 rfl (y_extract rfl rfl) rfl rfl rfl rfl (by kernel_rfl) ?_
          refine pl_y 17 rfl (y_assign rfl) rfl rfl rfl rfl (by kernel_rfl) ?_
          refine pl_y 18 rfl (y_assign rfl) rfl rfl rfl rfl (by kernel_rfl) ?_
          refine pl_end (by kernel_rfl) ?_
          refine ej_th (cj_seq ?_)
          refine cj_regionG (gj_step (y_move rfl) rfl rfl rfl (gj_nil ?_))
          refine ej_th ?_
          refine cj_cond rfl (fun h53 => ?_) (fun h53 => ?_)
          · have h53b := h53
            try simp only [sxb] at h53
            obtain ⟨l2, hl2⟩ := Option.isSome_iff_exists.1 h53b
            have hle := hl50 l2 hl2
            rw [hl2] at hsk
            have hsk2 : dfs s.s n m (d + 1) r = some (k :: l2) := by rw [dfs_S, ← hsk]; rfl
            refine cj_seq ?_
            refine cj_regionG (gj_step (y_move rfl) rfl rfl rfl (gj_step (y_assign rfl) rfl rfl rfl (gj_step (y_assign rfl) rfl rfl rfl (gj_nil ?_))))
            refine ej_th (cj_ret (ej_blk_ret (ej_then_ret (ej_then_ret (ej_blk_ret (ej_then_ret ?_))))))
            exact ej_ret2 rfl Try.results70 rfl rfl (fun w' hp => ⟨(A50, c50, l50), by rw [hsk2]; rfl, hp.below, sl_fp (hp.shared _ (.head _)).1 (fun b h => .inr ⟨h.elim (hfo b) (fun h => Nat.le_trans hn1 h.1), (hp.shared _ (.head _)).2.1 b h⟩), fun l' hl' => by
              rw [hsk2] at hl'
              injection hl' with hl'
              rw [hle, ← hl', List.append_assoc]; rfl⟩)
          · have h53b := h53
            try simp only [sxb] at h53
            rw [Option.isSome_eq_false_iff, Option.isNone_iff_eq_none] at h53b
            rw [h53b] at hsk
            refine cj_skip (ej_blk (ej_th ?_))
            refine cj_regionG (gj_step (y_move rfl) rfl rfl rfl (gj_step (y_add rfl rfl (by omega)) rfl rfl rfl (gj_step (y_assign rfl) rfl rfl rfl (gj_nil ?_))))
            exact ej_nx (k + 1) (by omega) ⟨by omega, hsk⟩ ⟨rfl, rfl, rfl, rfl, rfl, trivial⟩
    · have h25b := h25
      try simp only [sxb] at h25
      rw [List.drop_of_length_le (by rw [List.length_range]; omega)] at hsk
      have hsk2 : dfs s.s n m (d + 1) r = none := by rw [dfs_S, ← hsk]; rfl
      refine cj_exit (ej_then_exit (ej_then_exit (ej_blk_hit (ej_th (cj_seq ?_)))))
      refine cj_regionG (gj_step (y_assign rfl) rfl rfl rfl (gj_step (y_assign rfl) rfl rfl rfl (gj_nil ?_)))
      refine ej_th (cj_ret ?_)
      exact ej_ret2 rfl Try.results70 rfl rfl (fun w' hp => ⟨(none, 0, []), by rw [hsk2]; rfl, hp.below, ⟨Nat.zero_le _, fun h => absurd rfl h⟩, fun l' hl' => by rw [hsk2] at hl'; cases hl'⟩)

theorem k_rWay (s : StrV) (g room : Int) (w : World) (hs : StrRd w s) : Calls Try.prog 36 #[.agg #[.slice s.Ar s.rooms.length s.cr, .slice s.Ag s.gates.length s.cg, .slice s.As s.staff.length s.cs], .int .i64 g, .int .i64 room] w (fun e w' => ∃ A c, e = .returned (.tuple #[.slice A (intsL (wayL s g room)).length c, .int .i64 (wayE s g room)]) ∧ Grow w w' ∧ Res w w' 1 enInt A (intsL (wayL s g room))) := by
  have hlr := hs.rooms.len
  refine enter_pure (args := [.agg #[.slice s.Ar s.rooms.length s.cr, .slice s.Ag s.gates.length s.cg, .slice s.As s.staff.length s.cs], .int .i64 g, .int .i64 room]) [sl (fun b => b < w.heap.size) 3 encRo s.Ar s.rooms, sl (fun b => b < w.heap.size) 4 encGa s.Ag s.gates, sl (fun b => b < w.heap.size) 1 enInt s.As s.staff] Try.func36 rfl (by rw [Try.ntmps36]; simp) (fun g hg => by simp at hg; rcases hg with rfl | rfl | rfl; exact ⟨hs.rooms, fun _ h => h⟩; exact ⟨hs.gates, fun _ h => h⟩; exact ⟨hs.staff, fun _ h => h⟩) ?_
  refine cj_seq (cj_region ?_)
  refine oj_box rfl rfl rfl (fun b3 => ?_)
  refine oj_step (y_assign rfl) rfl rfl rfl ?_
  refine oj_step (y_assign rfl) rfl rfl rfl ?_
  refine oj_nil ?_
  refine ej_th (cj_seq (cj_seq ?_))
  refine cj_regionG ?_
  refine gj_step (y_loadN Try.isAgg26 Try.sizeOf26 rfl) rfl rfl rfl (gj_step (y_move rfl) rfl rfl rfl (?_))
  refine gj_step (y_call Try.call44 rfl (fun w hp => k_rasked s g w (hs.mono hp.below))) rfl rfl rfl ?_
  refine gj_step (y_assign rfl) rfl rfl rfl (?_)
  refine gj_nil ?_
  refine ej_th (cj_seq ?_)
  refine cj_regionG (gj_step (y_move rfl) rfl rfl rfl (gj_step (y_neq rfl rfl) rfl rfl rfl (gj_nil ?_)))
  refine ej_th ?_
  refine cj_cond rfl (fun h17 => ?_) (fun h17 => ?_)
  · have h17b := h17
    try simp only [sxb] at h17
    obtain ⟨e1, e2⟩ := way_bad (m := room) h17
    refine cj_seq ?_
    refine cj_regionG (gj_step (y_move rfl) rfl rfl rfl (gj_step (y_assign rfl) rfl rfl rfl (gj_step (y_assign rfl) rfl rfl rfl (gj_nil ?_))))
    refine ej_th (cj_ret (ej_then_ret ?_))
    exact ej_ret2 rfl Try.results36 rfl rfl (fun w' hp => ⟨none, 0, (by rw [e1, e2]; try rfl), hp.below, by rw [e2]; exact Res.nil⟩)
  · have h17b := h17
    try simp only [sxb] at h17
    have h0 : askE s g = 0 := by simpa using h17
    obtain ⟨e2, e3, hb, hg0, hgl, hm64⟩ := ask_0 h0
    have hok := StrOk.of hb
    have hnr := hok.nr
    have hng := hok.ng
    have hns := hok.ns
    obtain ⟨n, hn⟩ : ∃ n : Nat, g = n := ⟨g.toNat, by omega⟩
    subst hn
    rw [Int.toNat_natCast] at hm64 hgl
    refine cj_skip (ej_th (cj_seq (cj_seq ?_)))
    refine cj_regionG ?_
    refine gj_step (y_move rfl) rfl rfl rfl (gj_step (y_fa0 fa26_0 rfl) rfl rfl rfl (gj_step (y_load1 Try.isAgg22 rfl rfl) rfl rfl rfl (gj_step (y_lenA Try.underlying22 rfl) rfl rfl rfl (gj_step (y_sub rfl rfl (by omega)) rfl rfl rfl (?_)))))
    refine gj_step (y_call Try.call27 rfl (fun w hp => k_From _ _ _ w)) rfl rfl rfl ?_
    refine gj_step (y_not rfl) rfl rfl rfl (?_)
    refine gj_nil ?_
    refine ej_th ?_
    refine cj_cond rfl (fun h25 => ?_) (fun h25 => ?_)
    · have h25b := h25
      try simp only [sxb] at h25
      obtain ⟨e1, e2⟩ := way_7 h0 (not_t h25b)
      refine cj_seq ?_
      refine cj_regionG (gj_step (y_assign rfl) rfl rfl rfl (gj_step (y_assign rfl) rfl rfl rfl (gj_nil ?_)))
      refine ej_th (cj_ret (ej_then_ret ?_))
      exact ej_ret2 rfl Try.results36 rfl rfl (fun w' hp => ⟨none, 0, (by rw [e1, e2]; try rfl), hp.below, by rw [e2]; exact Res.nil⟩)
    · have h25b := h25
      try simp only [sxb] at h25
      have hrb := btw_t.1 (not_f h25b)
      obtain ⟨m, hm⟩ : ∃ m : Nat, room = m := ⟨room.toNat, by omega⟩
      subst hm
      refine cj_skip (ej_th (cj_seq (cj_region ?_)))
      refine oj_step (y_loadN Try.isAgg26 Try.sizeOf26 rfl) rfl rfl rfl ?_
      refine oj_step (y_move rfl) rfl rfl rfl ?_
      refine oj_step (y_move rfl) rfl rfl rfl ?_
      refine oj_step (y_build (cs := [.slice s.Ar s.rooms.length s.cr, .slice s.Ag s.gates.length s.cg, .slice s.As s.staff.length s.cs, .int .i64 (n : Nat), .int .i64 (m : Nat)]) st102 rfl (by kernel_rfl)) rfl rfl rfl ?_
      refine oj_alloc Try.zeroValue102 rfl rfl (fun b9 => ?_)
      refine oj_store rfl rfl rfl rfl Try.sizeOf102 rfl ?_
      refine oj_nil ?_
      refine ej_th (cj_seq (cj_seq ?_))
      refine cj_regionG (gj_step (y_assign rfl) rfl rfl rfl (gj_nil ?_))
      refine ej_th (cj_block ?_)
      refine cj_lpic (X := Nat) [(3, _), (9, _)] (fun k => k ≤ s.rooms.length ∧ ∀ j, j < k → dfs s.s n m j 1 = none) (fun k => [(10, .int .i64 (k : Nat))]) (fun k => s.rooms.length - k) 0 (⟨Nat.zero_le _, fun j h => absurd h (Nat.not_lt_zero _)⟩) ⟨rfl, rfl, rfl, trivial⟩ ?_
      rintro k ⟨hk, hno⟩
      dsimp only [List.cons_append, List.nil_append]
      refine cj_seq (cj_seq ?_)
      refine cj_regionG (gj_step (y_move rfl) rfl rfl rfl (gj_step (y_fa0 fa26_0 rfl) rfl rfl rfl (gj_step (y_load1 Try.isAgg22 rfl rfl) rfl rfl rfl (gj_step (y_lenA Try.underlying22 rfl) rfl rfl rfl (gj_step (y_lss rfl rfl) rfl rfl rfl (gj_nil ?_))))))
      refine ej_th ?_
      refine cj_cond rfl (fun h34 => ?_) (fun h34 => ?_)
      · have h34b := h34
        try simp only [sxb] at h34
        refine cj_skip (ej_th (cj_seq (cj_block (cj_seq (cj_region ?_)))))
        refine oj_step (y_loadN Try.isAgg102 Try.sizeOf102 rfl) rfl rfl rfl ?_
        refine oj_step (y_move rfl) rfl rfl rfl ?_
        refine oj_callR (X := { z : (Option Addr × Nat × List Nat × Nat × Nat) // w.heap.size ≤ z.2.2.2.1 ∧ ∀ l', dfs s.s n m k 1 = some l' → z.2.2.1 = [] ++ l' }) (fun z => .tuple #[.slice z.1.1 (intsL z.1.2.2.1).length z.1.2.1, .bool (dfs s.s n m k 1).isSome]) (fun z => [sl (fun b => False ∨ (z.1.2.2.2.1 ≤ b ∧ b < z.1.2.2.2.2)) 1 enInt z.1.1 (intsL z.1.2.2.1)]) Try.call70 rfl (fun w1 hp => by
          have h9 := k_rway s n m hb hm64 (by omega) k 1 [] none 0 (fun _ => False) w1 (hs.mono hp.below) ⟨Nat.zero_le _, fun h => absurd rfl h⟩ (fun b h => h.elim) (one_lt hb) (by simp; omega)
          exact h9.mono fun e w2 ⟨x, he, hg, hP, hl'⟩ => ⟨⟨(x.1, x.2.1, x.2.2, w1.heap.size, w2.heap.size), hp.size, hl'⟩, he, hg, fun f hf => by
            rw [List.mem_singleton.1 hf]
            exact ⟨hP, fun b hb => hb.elim (fun h => h.elim) (fun h => .inr h)⟩⟩) rfl ?_
        rintro ⟨⟨A40, c40, l40, n1, n2⟩, hn1, hl40⟩
        dsimp only [List.cons_append, List.nil_append] at hn1 hl40 ⊢
        refine oj_step (y_move rfl) rfl rfl rfl ?_
        refine oj_step (y_extract rfl rfl) rfl rfl rfl ?_
        refine oj_step (y_extract rfl rfl) rfl rfl rfl ?_
        refine oj_step (y_assign rfl) rfl rfl rfl ?_
        refine oj_step (y_assign rfl) rfl rfl rfl ?_
        refine oj_nil ?_
        refine ej_th (cj_seq ?_)
        refine cj_regionG (gj_step (y_move rfl) rfl rfl rfl (gj_nil ?_))
        refine ej_th ?_
        refine cj_cond rfl (fun h43 => ?_) (fun h43 => ?_)
        · have h43b := h43
          try simp only [sxb] at h43
          obtain ⟨l2, hl2⟩ := Option.isSome_iff_exists.1 h43b
          have hle := hl40 l2 hl2
          obtain ⟨e1, e2⟩ := way_0 (l := l2) h0 (not_f h25b) (by rw [Int.toNat_natCast, Int.toNat_natCast]; exact wayV_at (by omega) hno hl2)
          refine cj_seq ?_
          refine cj_regionG (gj_step (y_move rfl) rfl rfl rfl (gj_step (y_assign rfl) rfl rfl rfl (gj_step (y_assign rfl) rfl rfl rfl (gj_nil ?_))))
          refine ej_th (cj_ret (ej_blk_ret (ej_then_ret (ej_then_ret (ej_blk_ret (ej_then_ret ?_))))))
          exact ej_ret2 rfl Try.results36 rfl rfl (fun w' hp => ⟨A40, c40, (by rw [e1, e2, hle]; try rfl), hp.below, by rw [e2, show l2 = l40 from hle.symm]; exact sl_fp (hp.shared _ (.head _)).1 (fun b h => ⟨h.elim (fun h => h.elim) (fun h => Nat.le_trans hn1 h.1), (hp.shared _ (.head _)).2.1 b h⟩)⟩)
        · have h43b := h43
          try simp only [sxb] at h43
          rw [Option.isSome_eq_false_iff, Option.isNone_iff_eq_none] at h43b
          refine cj_skip (ej_blk (ej_th ?_))
          refine cj_regionG (gj_step (y_move rfl) rfl rfl rfl (gj_step (y_add rfl rfl (by omega)) rfl rfl rfl (gj_step (y_assign rfl) rfl rfl rfl (gj_nil ?_))))
          refine ej_nx (k + 1) (by omega) ⟨by omega, fun j hj => ?_⟩ ⟨rfl, rfl, rfl, trivial⟩
          by_cases e : j < k
          · exact hno j e
          · have e2 : j = k := by omega
            subst e2; exact h43b
      · have h34b := h34
        try simp only [sxb] at h34
        obtain ⟨e1, e2⟩ := way_4 h0 (not_f h25b) (by rw [Int.toNat_natCast, Int.toNat_natCast]; exact wayV_no (fun j hj => hno j (by omega)))
        refine cj_exit (ej_then_exit (ej_then_exit (ej_blk_hit (ej_th (cj_seq ?_)))))
        refine cj_regionG (gj_step (y_assign rfl) rfl rfl rfl (gj_step (y_assign rfl) rfl rfl rfl (gj_nil ?_)))
        refine ej_th (cj_ret ?_)
        exact ej_ret2 rfl Try.results36 rfl rfl (fun w' hp => ⟨none, 0, (by rw [e1, e2]; try rfl), hp.below, by rw [e2]; exact Res.nil⟩)

end Go.Proofs.Ytomidcehahdmbaa
namespace Go.Proofs.Ytomidcehahdmbaa
open Go.Sx Go.RowKit
set_option maxRecDepth 20000
theorem fa62_0 : FieldIs Try.prog 62 0 0 1 false := ⟨⟨_, _, Try.underlying62, rfl, rfl, Try.sizeOf3, Try.isAgg3, by decide⟩⟩
theorem fa62_1 : FieldIs Try.prog 62 1 1 1 false := ⟨⟨_, _, Try.underlying62, rfl, rfl, Try.sizeOf3, Try.isAgg3, by decide⟩⟩
theorem fa62_2 : FieldIs Try.prog 62 2 2 1 false := ⟨⟨_, _, Try.underlying62, rfl, rfl, Try.sizeOf24, Try.isAgg24, by decide⟩⟩
end Go.Proofs.Ytomidcehahdmbaa
namespace Go.Proofs.Ytomidcehahdmbaa
open Go.Sx Go.RowKit Vm
set_option maxRecDepth 20000
theorem k_VaultWays (s : StrV) (tg tr : Int) (tl : List Int) (tA : Option Addr) (tc : Nat) (w : World) (hs : StrRd w s) (htl : Rd w 1 enInt tA tl) : Calls Try.prog 10 #[.agg #[.slice s.Ar s.rooms.length s.cr, .slice s.Ag s.gates.length s.cg, .slice s.As s.staff.length s.cs], .agg #[.int .i64 tg, .int .i64 tr, .slice tA tl.length tc]] w (fun e w' => e = .returned (.bool true) ∧ Grow w w') := by
  refine enter_pure (args := [.agg #[.slice s.Ar s.rooms.length s.cr, .slice s.Ag s.gates.length s.cg, .slice s.As s.staff.length s.cs], .agg #[.int .i64 tg, .int .i64 tr, .slice tA tl.length tc]]) [sl (fun b => b < w.heap.size) 1 enInt tA tl] Try.func10 rfl (by rw [Try.ntmps10]; simp) (fun g hg => by simp at hg; subst hg; exact ⟨htl, fun _ h => h⟩) ?_
  refine cj_seq (cj_region ?_)
  refine oj_box rfl rfl rfl (fun b2 => ?_)
  refine oj_box rfl rfl rfl (fun b3 => ?_)
  refine oj_step (y_assign rfl) rfl rfl rfl ?_
  refine oj_nil ?_
  refine ej_th (cj_seq (cj_region ?_))
  refine oj_step (y_loadN Try.isAgg26 Try.sizeOf26 rfl) rfl rfl rfl ?_
  refine oj_step (y_fa0 fa62_0 rfl) rfl rfl rfl ?_
  refine oj_step (y_load1 Try.isAgg3 rfl rfl) rfl rfl rfl ?_
  refine oj_step (y_fa fa62_1 rfl) rfl rfl rfl ?_
  refine oj_step (y_load1 Try.isAgg3 rfl rfl) rfl rfl rfl ?_
  refine oj_callS (fun A c => .tuple #[.slice A (intsL (wayL s tg tr)).length c, .int .i64 (wayE s tg tr)]) 1 enInt (intsL (wayL s tg tr)) Try.call35 rfl (fun w hp => k_Way s tg tr w (hs.mono hp.below)) rfl (fun A17 c17 fp17 hfp17 => ?_)
  refine oj_step (y_move rfl) rfl rfl rfl ?_
  refine oj_step (y_extract rfl rfl) rfl rfl rfl ?_
  refine oj_step (y_extract rfl rfl) rfl rfl rfl ?_
  refine oj_step (y_assign rfl) rfl rfl rfl ?_
  refine oj_step (y_assign rfl) rfl rfl rfl ?_
  refine oj_nil ?_
  refine ej_th (cj_seq (cj_region ?_))
  refine oj_step (y_loadN Try.isAgg26 Try.sizeOf26 rfl) rfl rfl rfl ?_
  refine oj_step (y_fa0 fa62_0 rfl) rfl rfl rfl ?_
  refine oj_step (y_load1 Try.isAgg3 rfl rfl) rfl rfl rfl ?_
  refine oj_step (y_fa fa62_1 rfl) rfl rfl rfl ?_
  refine oj_step (y_load1 Try.isAgg3 rfl rfl) rfl rfl rfl ?_
  refine oj_callS (fun A c => .tuple #[.slice A (intsL (wayL s tg tr)).length c, .int .i64 (wayE s tg tr)]) 1 enInt (intsL (wayL s tg tr)) Try.call36 rfl (fun w hp => k_rWay s tg tr w (hs.mono hp.below)) rfl (fun A26 c26 fp26 hfp26 => ?_)
  refine oj_step (y_move rfl) rfl rfl rfl ?_
  refine oj_step (y_extract rfl rfl) rfl rfl rfl ?_
  refine oj_step (y_extract rfl rfl) rfl rfl rfl ?_
  refine oj_step (y_assign rfl) rfl rfl rfl ?_
  refine oj_step (y_assign rfl) rfl rfl rfl ?_
  refine oj_nil ?_
  refine ej_th (cj_seq (cj_seq ?_))
  refine cj_regionG ?_
  refine gj_step (y_move rfl) rfl rfl rfl (gj_step (y_move rfl) rfl rfl rfl (?_))
  refine gj_step (y_call Try.call22 rfl (fun w hp => k_Same (intsL (wayL s tg tr)) (intsL (wayL s tg tr)) A17 A26 c17 c26 w hp.rd hp.rd)) rfl rfl rfl ?_
  refine gj_step (y_not rfl) rfl rfl rfl (gj_step (y_move rfl) rfl rfl rfl (?_))
  refine gj_g 3 33 36 rfl rfl rfl rfl (fun hg33 => gj_yes rfl rfl rfl (y_move rfl) rfl rfl (gj_yes rfl rfl rfl (y_move rfl) rfl rfl (gj_yes rfl rfl rfl (y_neq rfl rfl) rfl rfl (gj_nil rfl)))) ?_
  refine gj_step (y_or rfl rfl rfl) rfl rfl rfl (?_)
  refine gj_nil ?_
  refine ej_th ?_
  refine cj_cond rfl (fun h37 => ?_) (fun h37 => ?_)
  · simp at h37
  · have h37b := h37
    try simp only [sxb] at h37
    refine cj_skip (ej_th (cj_seq ?_))
    refine cj_regionG ?_
    refine gj_step (y_loadN Try.isAgg26 Try.sizeOf26 rfl) rfl rfl rfl (gj_step (y_fa0 fa62_0 rfl) rfl rfl rfl (gj_step (y_load1 Try.isAgg3 rfl rfl) rfl rfl rfl (gj_step (y_fa fa62_2 rfl) rfl rfl rfl (gj_step (y_load1 Try.isAgg24 rfl rfl) rfl rfl rfl (?_)))))
    refine gj_step (y_call Try.call37 rfl (fun w hp => k_Opens s tg tl tA tc w (hs.mono hp.below) hp.rd)) rfl rfl rfl ?_
    refine gj_step (y_move rfl) rfl rfl rfl (gj_step (y_extract rfl rfl) rfl rfl rfl (gj_step (y_extract rfl rfl) rfl rfl rfl (gj_step (y_assign rfl) rfl rfl rfl (gj_step (y_assign rfl) rfl rfl rfl (?_)))))
    refine gj_nil ?_
    refine ej_th (cj_seq ?_)
    refine cj_regionG ?_
    refine gj_step (y_loadN Try.isAgg26 Try.sizeOf26 rfl) rfl rfl rfl (gj_step (y_fa0 fa62_0 rfl) rfl rfl rfl (gj_step (y_load1 Try.isAgg3 rfl rfl) rfl rfl rfl (gj_step (y_fa fa62_2 rfl) rfl rfl rfl (gj_step (y_load1 Try.isAgg24 rfl rfl) rfl rfl rfl (?_)))))
    refine gj_step (y_call Try.call38 rfl (fun w hp => k_rOpens s tg tl tA tc w (hs.mono hp.below) hp.rd)) rfl rfl rfl ?_
    refine gj_step (y_move rfl) rfl rfl rfl (gj_step (y_extract rfl rfl) rfl rfl rfl (gj_step (y_extract rfl rfl) rfl rfl rfl (gj_step (y_assign rfl) rfl rfl rfl (gj_step (y_assign rfl) rfl rfl rfl (?_)))))
    refine gj_nil ?_
    refine ej_th (cj_seq ?_)
    refine cj_regionG ?_
    refine gj_step (y_move rfl) rfl rfl rfl (gj_step (y_move rfl) rfl rfl rfl (gj_step (y_eql rfl rfl) rfl rfl rfl (gj_step (y_move rfl) rfl rfl rfl (?_))))
    refine gj_g 3 59 62 rfl rfl rfl rfl (fun hg59 => gj_yes rfl rfl rfl (y_move rfl) rfl rfl (gj_yes rfl rfl rfl (y_move rfl) rfl rfl (gj_yes rfl rfl rfl (y_eql rfl rfl) rfl rfl (gj_nil rfl)))) ?_
    refine gj_step (y_and rfl rfl rfl) rfl rfl rfl (gj_step (y_move rfl) rfl rfl rfl (?_))
    refine gj_g 1 64 65 rfl rfl rfl rfl (fun hg64 => gj_yes rfl rfl rfl (y_call Try.call19 rfl (fun w hp => k_works w)) rfl rfl (gj_nil rfl)) ?_
    refine gj_step (y_and rfl rfl rfl) rfl rfl rfl (gj_step (y_assign rfl) rfl rfl rfl (?_))
    refine gj_nil ?_
    refine ej_th (cj_ret ?_)
    exact ej_ret1 rfl Try.results10 rfl (fun w' hp => ⟨by simp, hp.below⟩)

end Go.Proofs.Ytomidcehahdmbaa
