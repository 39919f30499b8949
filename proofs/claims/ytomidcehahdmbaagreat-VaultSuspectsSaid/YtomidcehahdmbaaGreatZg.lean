/- Texts of ours, joined: 2 of them. Conditions: none. -/
import Derived.Test.YtomidcehahdmbaaGreatZf
namespace Go.Proofs.YtomidcehahdmbaaGreat
open Go.Sx Go.RowKit Vm
set_option maxRecDepth 20000
set_option maxHeartbeats 3200000 in
theorem k_Way (s : StrV) (g room : Int) (w : World) (hs : StrRd w s) : Calls Tryz.prog 23 #[.agg #[.slice s.Ar s.rooms.length s.cr, .slice s.Ag s.gates.length s.cg, .slice s.As s.staff.length s.cs], .int .i64 g, .int .i64 room] w (fun e w' => ∃ A c, e = .returned (.tuple #[.slice A (intsL (wayL s g room)).length c, .int .i64 (wayE s g room)]) ∧ Grow w w' ∧ Res w w' 1 enInt A (intsL (wayL s g room))) := by
  have hlr := hs.rooms.len
  refine enter_pure (args := [.agg #[.slice s.Ar s.rooms.length s.cr, .slice s.Ag s.gates.length s.cg, .slice s.As s.staff.length s.cs], .int .i64 g, .int .i64 room]) [sl (fun b => b < w.heap.size) 3 encRo s.Ar s.rooms, sl (fun b => b < w.heap.size) 4 encGa s.Ag s.gates, sl (fun b => b < w.heap.size) 1 enInt s.As s.staff] Tryz.func23 rfl (by rw [Tryz.ntmps23]; simp) (fun g hg => by simp at hg; rcases hg with rfl | rfl | rfl; exact ⟨hs.rooms, fun _ h => h⟩; exact ⟨hs.gates, fun _ h => h⟩; exact ⟨hs.staff, fun _ h => h⟩) ?_
  refine cj_seq (cj_region ?_)
  refine oj_box rfl rfl rfl (fun b3 => ?_)
  refine oj_step (y_assign rfl) rfl rfl rfl ?_
  refine oj_step (y_assign rfl) rfl rfl rfl ?_
  refine oj_nil ?_
  refine ej_th ?_
  refine cj_scope rfl ?_
  refine cj_seq (cj_region ?_)
  refine oj_step (y_loadN Tryz.isAgg26 Tryz.sizeOf26 rfl) rfl rfl rfl ?_
  refine oj_step (y_move rfl) rfl rfl rfl ?_
  refine oj_step (y_call Tryz.call46 rfl (fun w hp => k_asked s g w (hs.mono hp.below))) rfl rfl rfl ?_
  refine oj_step (y_move rfl) rfl rfl rfl ?_
  refine oj_step (y_extract rfl rfl) rfl rfl rfl ?_
  refine oj_step (y_extract rfl rfl) rfl rfl rfl ?_
  refine oj_alloc Tryz.zeroValue80 rfl rfl (fun b8 => ?_)
  refine oj_store rfl rfl rfl rfl Tryz.sizeOf80 rfl ?_
  refine oj_step (y_assign rfl) rfl rfl rfl ?_
  refine oj_nil ?_
  refine ej_th (cj_seq (cj_seq ?_))
  refine cj_regionG (gj_step (y_move rfl) rfl rfl rfl (gj_step (y_neq rfl rfl) rfl rfl rfl (gj_nil ?_)))
  refine ej_th ?_
  refine cj_cond rfl (fun h28 => ?_) (fun h28 => ?_)
  · have h28b := h28
    try simp only [sxb] at h28
    obtain ⟨e1, e2⟩ := way_bad (m := room) h28
    refine cj_seq ?_
    refine cj_regionG (gj_step (y_move rfl) rfl rfl rfl (gj_step (y_assign rfl) rfl rfl rfl (gj_step (y_assign rfl) rfl rfl rfl (gj_nil ?_))))
    refine ej_th (cj_ret (ej_then_ret (ej_noGoto_ret ?_)))
    exact ej_ret2 rfl Tryz.results23 rfl rfl (fun w' hp => ⟨none, 0, (by rw [e1, e2]; try rfl), hp.below, by rw [e2]; exact Res.nil⟩)
  · have h28b := h28
    try simp only [sxb] at h28
    have h0 : askE s g = 0 := by simpa using h28
    obtain ⟨e2, e3, hb, hg0, hgl, hm64⟩ := ask_0 h0
    have hok := StrOk.of hb
    have hnr := hok.nr
    have hng := hok.ng
    have hns := hok.ns
    obtain ⟨n, hn⟩ : ∃ n : Nat, g = n := ⟨g.toNat, by omega⟩
    subst hn
    rw [Int.toNat_natCast] at hm64 hgl
    rw [e2, e3]
    have h64r : 2 ^ s.rooms.length ≤ 64 := pow_le64 hnr.2
    refine cj_skip (ej_th (cj_seq (cj_seq ?_)))
    refine cj_regionG ?_
    refine gj_step (y_move rfl) rfl rfl rfl (gj_step (y_fa0 fa26_0 rfl) rfl rfl rfl (gj_step (y_load1 Tryz.isAgg22 rfl rfl) rfl rfl rfl (gj_step (y_lenA Tryz.underlying22 rfl) rfl rfl rfl (gj_step (y_sub rfl rfl (by omega)) rfl rfl rfl (?_)))))
    refine gj_step (y_call Tryz.call17 rfl (fun w hp => k_within _ _ _ w)) rfl rfl rfl ?_
    refine gj_step (y_not rfl) rfl rfl rfl (?_)
    refine gj_nil ?_
    refine ej_th ?_
    refine cj_cond rfl (fun h36 => ?_) (fun h36 => ?_)
    · have h36b := h36
      try simp only [sxb] at h36
      obtain ⟨e1, e2⟩ := way_7 h0 (not_t h36b)
      refine cj_seq ?_
      refine cj_regionG (gj_step (y_assign rfl) rfl rfl rfl (gj_step (y_assign rfl) rfl rfl rfl (gj_nil ?_)))
      refine ej_th (cj_ret (ej_then_ret (ej_noGoto_ret ?_)))
      exact ej_ret2 rfl Tryz.results23 rfl rfl (fun w' hp => ⟨none, 0, (by rw [e1, e2]; try rfl), hp.below, by rw [e2]; exact Res.nil⟩)
    · have h36b := h36
      try simp only [sxb] at h36
      have hrb := btw_t.1 (not_f h36b)
      obtain ⟨m, hm⟩ : ∃ m : Nat, room = m := ⟨room.toNat, by omega⟩
      subst hm
      have hpm := pow_bd (k := m) (n := 6) (by omega) (by omega)
      refine cj_skip (ej_th (cj_seq (cj_region ?_)))
      refine oj_makeMap ekI evW rfl (fun m37 => ?_)
      refine oj_insert (oj_mapUpdate (ek := ekI) (ev := evW) (l := []) (kk := 1) (v := wy0) Tryz.underlying94 Tryz.underlying3 rfl rfl rfl ?_)
      refine oj_step (y_move rfl) rfl rfl rfl ?_
      refine oj_step (y_assign rfl) rfl rfl rfl ?_
      refine oj_nil ?_
      refine ej_th (cj_seq (cj_region ?_))
      refine oj_buildSlice (cs := [.int .i64 1]) [.int .i64 0] Tryz.underlying24 Tryz.sizeOf3 Tryz.zeroValue3 rfl rfl (by kernel_rfl) (by kernel_rfl) rfl (fun b39 => ?_)
      refine oj_step (y_assign rfl) rfl rfl rfl ?_
      refine oj_nil ?_
      refine ej_th (cj_seq ?_)
      refine cj_regionG (gj_step (y_assign rfl) rfl rfl rfl (gj_nil ?_))
      refine ej_th (cj_seq (cj_label (ej_th ?_)))
      refine cj_cuti (X := Option (Nat × WyV) × Sq × (Nat → Prop)) [(6, _), (7, _), (10, _)] ⟨rfl, rfl, rfl, trivial⟩ (fun ⟨x, q, fp⟩ => (∀ b, fp b → w.heap.size ≤ b) ∧ (match (x : Option (Nat × WyV)) with | none => wayE s n m = 4 ∧ wayL s n m = [] | some e => ∃ i : Nat, q[i]? = some e ∧ (q.map (·.1)).Nodup ∧ wayE s n m = 0 ∧ wayL s n m = e.2.w)) (fun ⟨x, q, fp⟩ => [(12, .int .i64 (fndI x))]) (fun ⟨x, q, fp⟩ => [mp ekI evW m37 (mapL q)]) (fun ⟨x, q, fp⟩ => [famW fp q]) ?_ ?_
      · refine cj_block ?_
        refine cj_quOf (b := b39) (fun n : Int => .int .i64 n) [1] rfl ?_
        refine cj_eqO [qu 3 (fun n : Int => .int .i64 n) b39 0 1 (quL [(1, wy0)] 0), mp ekI evW m37 (mapL [(1, wy0)]), ownB b8 (cellsB 80 [.slice s.Ar s.rooms.length s.cr, .slice s.Ag s.gates.length s.cg, .slice s.As s.staff.length s.cs, .int .i64 (n : Nat)]), ownB b3 (cellsB 26 [.slice s.Ar s.rooms.length s.cr, .slice s.Ag s.gates.length s.cg, .slice s.As s.staff.length s.cs])] rfl ?_
        refine cj_addS (famW (fun _ => False) [(1, wy0)]) (fun w1 hp => ⟨fun e he => (by rw [List.mem_singleton.1 he]; exact ⟨Nat.zero_le _, fun h => absurd rfl h⟩), fun b h => h.elim⟩) ?_
        refine cj_lpi (X := Nat × Sq × Nat × Nat × Nat × (Nat → Prop)) [(2, _), (3, _), (6, _), (7, _), (8, _), (10, _)] (fun ⟨p, q, b, kq, cq, fp⟩ => p ≤ q.length ∧ Bfs s.s n m (seqW q) p 0 ∧ (∀ x ∈ q, x.1 < 2 ^ s.rooms.length) ∧ (∀ b, fp b → w.heap.size ≤ b)) (fun ⟨p, q, b, kq, cq, fp⟩ => [(11, .slice (some ⟨b, kq, none⟩) (quL q p).length cq), (12, .int .i64 (-1))]) (fun ⟨p, q, b, kq, cq, fp⟩ => [qu 3 (fun n : Int => .int .i64 n) b kq cq (quL q p), mp ekI evW m37 (mapL q), ownB b8 (cellsB 80 [.slice s.Ar s.rooms.length s.cr, .slice s.Ag s.gates.length s.cg, .slice s.As s.staff.length s.cs, .int .i64 (n : Nat)]), ownB b3 (cellsB 26 [.slice s.Ar s.rooms.length s.cr, .slice s.Ag s.gates.length s.cg, .slice s.As s.staff.length s.cs])]) (fun ⟨p, q, b, kq, cq, fp⟩ => [famW fp q, sl (fun b => b < w.heap.size) 3 encRo s.Ar s.rooms, sl (fun b => b < w.heap.size) 4 encGa s.Ag s.gates, sl (fun b => b < w.heap.size) 1 enInt s.As s.staff]) (fun ⟨p, q, b, kq, cq, fp⟩ => 65 - p) (0, [(1, wy0)], b39, 0, 1, fun _ => False) (⟨by simp, Bfs.start s.s n m, fun x hx => by rw [List.mem_singleton.1 hx]; exact one_lt hb, fun _ h => h.elim⟩) ⟨rfl, rfl, rfl, rfl, rfl, rfl, rfl, rfl, trivial⟩ ?_
        rintro ⟨p, q, b, kq, cq, fp⟩ ⟨hp0, hB, hqk, hfp⟩
        dsimp only [List.cons_append, List.nil_append]
        refine cj_seq (cj_seq ?_)
        refine cj_regionG (gj_step (y_move rfl) rfl rfl rfl (gj_step (y_lenA Tryz.underlying24 rfl) rfl rfl rfl (gj_step (y_gtr rfl rfl) rfl rfl rfl (gj_nil ?_))))
        refine ej_th ?_
        refine cj_cond rfl (fun h42 => ?_) (fun h42 => ?_)
        · have h42b := h42
          try simp only [sxb] at h42
          have hql0 := quL_len q p
          obtain ⟨e, he⟩ : ∃ e, q[p]? = some e := ⟨_, List.getElem?_eq_getElem (by omega)⟩
          have hek := hqk e (get_mem he)
          have hqe := quL_cons he
          have hnod : (q.map (·.1)).Nodup := by rw [← seqW_keys]; exact hB.keys
          have hat := mapL_at hnod he
          have hsl := sq_len hnod (fun x hx => by have := hqk x hx; omega)
          have hql := quL_len q (p + 1)
          have hpl := (List.getElem?_eq_some_iff.1 he).1
          have hewl : e.2.w.length < 6 := Nat.lt_of_lt_of_le (walk_len hb (hB.ways _ (get_mem (seqW_get he)))) hnr.2
          have hewI : (intsL e.2.w).length < 6 := by rw [enC]; exact hewl
          refine cj_get (p := (quL q p).length ≤ cq) (fun w1 hp => by obtain ⟨cur, _, _, h3, _⟩ := (hp.own _ (.head _)).1; exact h3) (fun hqc => ?_)
          rw [hqe] at hqc ⊢
          refine cj_skip (ej_th (cj_block (cj_seq ?_)))
          refine cj_regionG (gj_step (y_move rfl) rfl rfl rfl (gj_step (y_ixR (reads_qu (List.mem_cons_self ..)) Tryz.underlying24 Tryz.sizeOf3 rfl rfl (⟨by simp, by simp only [List.length_cons]; omega⟩)) rfl rfl rfl (gj_step (y_ld0 (reads_qu (List.mem_cons_self ..)) Tryz.isAgg3 rfl (by rfl) rfl) rfl rfl rfl (gj_step (y_assign rfl) rfl rfl rfl (gj_nil ?_)))))
          refine ej_th (cj_seq ?_)
          refine cj_regionG (gj_step (y_move rfl) rfl rfl rfl (gj_step (y_quCut Tryz.underlying24 Tryz.sizeOf3 rfl rfl hqc) rfl rfl rfl (gj_step (y_assign rfl) rfl rfl rfl (gj_nil ?_))))
          refine ej_th (cj_seq (cj_seq ?_))
          refine cj_quCut (b := b) (k := kq) (c := cq) (x := ((e.1 : Nat) : Int)) (xs := quL q (p + 1)) ?_
          refine cj_regionG ?_
          refine gj_step (y_move rfl) rfl rfl rfl (gj_step (y_move rfl) rfl rfl rfl (gj_step (y_shl1 rfl rfl (by omega)) rfl rfl rfl (?_)))
          refine gj_step (y_call Tryz.call48 rfl (fun w hp => k_has e.1 (2 ^ m) w (by omega) (by omega))) rfl rfl rfl ?_
          refine gj_nil ?_
          refine ej_th ?_
          refine cj_cond rfl (fun h51 => ?_) (fun h51 => ?_)
          · have h51b := h51
            try simp only [sxb] at h51
            rw [hasN_bit] at h51b
            have hF := hB.found (seqW_get he) h51b
            obtain ⟨e1, e2⟩ := way_found h0 hb rfl rfl (not_f h36b) hF
            refine cj_seq ?_
            refine cj_regionG (gj_step (y_move rfl) rfl rfl rfl (gj_step (y_assign rfl) rfl rfl rfl (gj_nil ?_)))
            refine ej_th (cj_exit (ej_then_exit (ej_blk_pass rfl (ej_then_exit (ej_blk_hit ?_)))))
            exact ej_ct (some e, q, fp) ⟨hfp, p, he, hnod, e1, e2⟩ ⟨rfl, rfl, rfl, rfl, trivial⟩
          · have h51b := h51
            try simp only [sxb] at h51
            rw [hasN_bit] at h51b
            refine cj_skip (ej_th (cj_seq ?_))
            refine cj_regionG (gj_step (y_fa fa26_1 rfl) rfl rfl rfl (gj_step (y_load1 Tryz.isAgg23 rfl rfl) rfl rfl rfl (gj_step (y_lenA Tryz.underlying23 rfl) rfl rfl rfl (gj_step (y_move rfl) rfl rfl rfl (gj_nil ?_)))))
            refine ej_th (cj_block ?_)
            refine cj_lpi (X := Nat × Sq × Nat × Nat × Nat × (Nat → Prop)) [(12, _), (2, _), (3, _), (6, _), (7, _), (8, _), (10, _), (13, _), (54, _), (55, _)] (fun ⟨k, q, b, kq, cq, fp⟩ => k ≤ s.gates.length ∧ q[p]? = some e ∧ Bfs s.s n m (seqW q) p k ∧ (∀ x ∈ q, x.1 < 2 ^ s.rooms.length) ∧ (∀ b, fp b → w.heap.size ≤ b)) (fun ⟨k, q, b, kq, cq, fp⟩ => [(11, .slice (some ⟨b, kq, none⟩) (quL q (p + 1)).length cq), (56, .int .i64 (k : Nat))]) (fun ⟨k, q, b, kq, cq, fp⟩ => [qu 3 (fun n : Int => .int .i64 n) b kq cq (quL q (p + 1)), mp ekI evW m37 (mapL q), ownB b8 (cellsB 80 [.slice s.Ar s.rooms.length s.cr, .slice s.Ag s.gates.length s.cg, .slice s.As s.staff.length s.cs, .int .i64 (n : Nat)]), ownB b3 (cellsB 26 [.slice s.Ar s.rooms.length s.cr, .slice s.Ag s.gates.length s.cg, .slice s.As s.staff.length s.cs])]) (fun ⟨k, q, b, kq, cq, fp⟩ => [famW fp q, sl (fun b => b < w.heap.size) 3 encRo s.Ar s.rooms, sl (fun b => b < w.heap.size) 4 encGa s.Ag s.gates, sl (fun b => b < w.heap.size) 1 enInt s.As s.staff]) (fun ⟨k, q, b, kq, cq, fp⟩ => s.gates.length - k) (0, q, b, if cq = 1 then kq else kq + 1, cq - 1, fp) (⟨Nat.zero_le _, he, hB, hqk, hfp⟩) ⟨rfl, rfl, rfl, rfl, rfl, rfl, rfl, rfl, rfl, rfl, rfl, rfl, trivial⟩ ?_
            rintro ⟨k, q, b, kq, cq, fp⟩ ⟨hk, he, hB, hqk, hfp⟩
            dsimp only [List.cons_append, List.nil_append]
            refine cj_seq ?_
            refine cj_regionG (gj_step (y_lss rfl rfl) rfl rfl rfl (gj_nil ?_))
            refine ej_th (cj_seq ?_)
            refine cj_cond rfl (fun h57 => ?_) (fun h57 => ?_)
            · have h57b := h57
              try simp only [sxb] at h57
              obtain ⟨g, hgk⟩ : ∃ g, s.gates[k]? = some g := ⟨_, List.getElem?_eq_getElem (by omega)⟩
              have hg := List.mem_of_getElem? hgk
              have hgo := hok.gate g hg
              obtain ⟨hga, hgb, hgne, hgn, hgl, hgw⟩ := hgo
              have hnb : 0 ≤ newI s n e.1 g ∧ newI s n e.1 g ≤ 5 := by
                unfold newI
                split
                · split <;> omega
                · omega
              have hpn : 2 ^ (newI s n e.1 g).toNat ≤ 1152921504606846976 := pow_bd (n := 6) (by omega) (by omega)
              refine cj_skip (ej_th (cj_seq (cj_block (cj_seq (cj_region ?_)))))
              refine oj_step (y_move rfl) rfl rfl rfl ?_
              refine oj_step (y_ixR (reads_sl) Tryz.underlying23 Tryz.sizeOf78 rfl rfl (⟨by omega, by omega⟩)) rfl rfl rfl ?_
              refine oj_step (y_ldW (reads_sl) Tryz.isAgg78 Tryz.sizeOf78 rfl (hgk) (fun _ => rfl)) rfl rfl rfl ?_
              refine oj_alloc Tryz.zeroValue78 rfl rfl (fun b15 => ?_)
              refine oj_step (y_assign rfl) rfl rfl rfl ?_
              refine oj_store rfl rfl rfl rfl Tryz.sizeOf78 rfl ?_
              refine oj_nil ?_
              refine ej_th (cj_seq ?_)
              refine cj_regionG ?_
              refine gj_step (y_loadN Tryz.isAgg80 Tryz.sizeOf80 rfl) rfl rfl rfl (gj_step (y_loadN Tryz.isAgg78 Tryz.sizeOf78 rfl) rfl rfl rfl (gj_step (y_move rfl) rfl rfl rfl (?_)))
              refine gj_step (y_call Tryz.call49 rfl (fun w hp => k_new s n e.1 g w (hs.mono hp.below) hb hm64 hek hg)) rfl rfl rfl ?_
              refine gj_step (y_move rfl) rfl rfl rfl (gj_step (y_extract rfl rfl) rfl rfl rfl (gj_step (y_extract rfl rfl) rfl rfl rfl (gj_step (y_assign rfl) rfl rfl rfl (gj_step (y_assign rfl) rfl rfl rfl (?_)))))
              refine gj_nil ?_
              refine ej_th (cj_seq ?_)
              refine cj_regionG (gj_step (y_move rfl) rfl rfl rfl (gj_step (y_move rfl) rfl rfl rfl (gj_step (y_shl1I rfl rfl hnb.1 (by omega)) rfl rfl rfl (gj_step (y_orN rfl rfl (by omega) (by omega)) rfl rfl rfl (gj_step (y_assign rfl) rfl rfl rfl (gj_nil ?_))))))
              refine ej_th (cj_seq (cj_seq ?_))
              refine cj_regionG (gj_step (y_move rfl) rfl rfl rfl (gj_step (y_move rfl) rfl rfl rfl (gj_step (y_lookup (ek := ekI) (ev := evW) (kk := ((e.1 ||| 2 ^ (newI s n e.1 g).toNat : Nat) : Int)) wy0 Tryz.underlying94 Tryz.underlying3 Tryz.zeroValue24 rfl rfl) rfl rfl rfl (gj_step (y_move rfl) rfl rfl rfl (gj_step (y_extract rfl rfl) rfl rfl rfl (gj_step (y_extract rfl rfl) rfl rfl rfl (gj_step (y_assign rfl) rfl rfl rfl (gj_step (y_assign rfl) rfl rfl rfl (gj_nil ?_)))))))))
              refine ej_th (cj_seq ?_)
              refine cj_regionG (gj_step (y_move rfl) rfl rfl rfl (gj_step (y_not rfl) rfl rfl rfl (gj_step (y_move rfl) rfl rfl rfl (gj_g 1 80 81 rfl rfl rfl rfl (fun hg80 => gj_yes rfl rfl rfl (y_move rfl) rfl rfl (gj_nil rfl)) (gj_step (y_or rfl rfl rfl) rfl rfl rfl (gj_nil ?_))))))
              refine ej_th ?_
              refine cj_cond rfl (fun h82 => ?_) (fun h82 => ?_)
              · have h82b := h82
                try simp only [sxb] at h82
                refine cj_exit (ej_then_exit (ej_blk_hit (ej_th ?_)))
                refine cj_regionG (gj_step (y_add rfl rfl (by omega)) rfl rfl rfl (gj_step (y_move rfl) rfl rfl rfl (gj_nil ?_)))
                exact ej_nx (k + 1, q, b, kq, cq, fp) (by first | omega | (simp only; omega)) ⟨by first | omega | (simp only; omega), he, hB.pass (seqW_get he) (fun g' hg' hl' => by
                  rw [gate_get hgk] at hg'
                  injection hg' with hg'
                  subst hg'
                  rw [hl', Bool.not_true, Bool.false_or, next_new hl'] at h82b
                  obtain ⟨v, hv⟩ := Option.isSome_iff_exists.1 h82b
                  obtain ⟨f, hf, hfe⟩ := mapL_has hv
                  exact ⟨_, mem_seqW hf, hfe⟩), hqk, hfp⟩ ⟨rfl, rfl, rfl, rfl, rfl, rfl, rfl, rfl, rfl, rfl, rfl, rfl, trivial⟩
              · have h82b := h82
                try simp only [sxb] at h82
                rw [Bool.or_eq_false_iff] at h82b
                have hld := not_f h82b.1
                have hnx := next_new hld
                have hno := h82b.2
                rw [hnx] at hno ⊢
                have hnod : (q.map (·.1)).Nodup := by rw [← seqW_keys]; exact hB.keys
                have hat := mapL_at hnod he
                have hsl := sq_len hnod (fun x hx => by have := hqk x hx; omega)
                have hql := quL_len q (p + 1)
                have hpl := (List.getElem?_eq_some_iff.1 he).1
                have hnew : ∀ f ∈ q, f.1 ≠ nextN e.1 g.n := fun f hf hfe => by
                  have h9 := mapL_some hnod hf
                  rw [hfe, hno] at h9; cases h9
                have hlt := next_lt hb hek (List.mem_map.2 ⟨g, hg, rfl⟩)
                refine cj_skip (ej_th (cj_seq (cj_region ?_)))
                refine oj_step (y_move rfl) rfl rfl rfl ?_
                refine oj_step (y_move rfl) rfl rfl rfl ?_
                refine oj_step (y_move rfl) rfl rfl rfl ?_
                refine oj_step (y_move rfl) rfl rfl rfl ?_
                refine oj_step (y_lkW wy0 hat Tryz.underlying94 Tryz.underlying3 Tryz.zeroValue24 rfl rfl) rfl rfl rfl ?_
                refine oj_callO (fun B d => .slice B (intsL e.2.w).length d) 3 1 enInt (intsL e.2.w) Tryz.call50 rfl (fun w1 hp => k_Clone (intsL e.2.w) e.2.A e.2.c w1 (sl_fp ((hp.shared _ (.head _)).1 e (get_mem he)) (fun b hb => (hp.shared _ (.head _)).2.1 b hb)) (by rw [enC]; omega)) rfl (fun A88 c88 => ?_)
                refine oj_step (y_move rfl) rfl rfl rfl ?_
                refine oj_buildSlice (cs := [.int .i64 (k : Nat)]) [.int .i64 0] Tryz.underlying24 Tryz.sizeOf3 Tryz.zeroValue3 rfl rfl (by kernel_rfl) (by kernel_rfl) rfl (fun b90 => ?_)
                refine oj_append  el24 (fun _ => rfl) enInt_one rfl rfl rfl (reads_lit [((k : Nat) : Int)] (fun _ => rfl) rfl) (by unfold maxLen; simp only [List.length_append, List.length_cons, List.length_nil]; omega) (by simp only [List.length_append, List.length_cons, List.length_nil]; omega) rfl (fun A91 c91 => ?_)
                rw [← ints_snoc]
                refine oj_mapUpdate (ek := ekI) (ev := evW) (kk := ((nextN e.1 g.n : Nat) : Int)) (v := ⟨A91, c91, e.2.w ++ [k]⟩) Tryz.underlying94 Tryz.underlying3 rfl rfl rfl ?_
                rw [putL_new hnew]
                refine oj_nil ?_
                refine ej_th ?_
                refine cj_get (p := ∀ b, (ow 3 1 enInt A91 c91 (intsL (e.2.w ++ [k]))).fp b → w.heap.size ≤ b) (fun w1 hp b hb => Nat.le_of_not_lt ((hp.own _ (HasOw.mem (O := _) (A := A91))).2 b hb).2) (fun hfo => ?_)
                refine cj_frzS (O' := [qu 3 (fun n : Int => .int .i64 n) b kq cq (quL q (p + 1)), mp ekI evW m37 (mapL (q ++ [(nextN e.1 g.n, ⟨A91, c91, e.2.w ++ [k]⟩)])), ownB b8 (cellsB 80 [.slice s.Ar s.rooms.length s.cr, .slice s.Ag s.gates.length s.cg, .slice s.As s.staff.length s.cs, .int .i64 (n : Nat)]), ownB b3 (cellsB 26 [.slice s.Ar s.rooms.length s.cr, .slice s.Ag s.gates.length s.cg, .slice s.As s.staff.length s.cs])]) (ow 3 1 enInt A91 c91 (intsL (e.2.w ++ [k]))) (famW (fun i => fp i ∨ (ow 3 1 enInt A91 c91 (intsL (e.2.w ++ [k]))).fp i) (q ++ [(nextN e.1 g.n, ⟨A91, c91, e.2.w ++ [k]⟩)])) (fun w1 hp e' he' => by
                  rcases List.mem_append.1 he' with h | h
                  · exact sl_fp ((hp.shared _ (.head _)).1 e' h) (fun b h => .inl h)
                  · rw [List.mem_singleton.1 h]
                    exact owSl (hp.own _ (HasOw.mem (O := _) (A := A91))).1 enInt_len (by rw [enC, List.length_append]; unfold maxLen; simp only [List.length_cons, List.length_nil]; omega) (fun b h => .inr h)) (fun b h => h.elim (fun h => .inr ⟨_, .head _, h⟩) (fun h => .inl h)) ?_
                refine cj_region ?_
                refine oj_step (y_move rfl) rfl rfl rfl ?_
                refine oj_step (y_move rfl) rfl rfl rfl ?_
                refine oj_buildSlice (cs := [.int .i64 (nextN e.1 g.n : Nat)]) [.int .i64 0] Tryz.underlying24 Tryz.sizeOf3 Tryz.zeroValue3 rfl rfl (by kernel_rfl) (by kernel_rfl) rfl (fun b94 => ?_)
                refine oj_quAppend (en := fun n : Int => .int .i64 n) (xs := quL q (p + 1)) (y := ((nextN e.1 g.n : Nat) : Int)) el24 (fun _ => rfl) rfl rfl (reads_lit [((nextN e.1 g.n : Nat) : Int)] (fun _ => rfl) rfl) (by omega) (by omega) rfl (fun bq kz cz => ?_)
                refine oj_step (y_assign rfl) rfl rfl rfl ?_
                refine oj_nil ?_
                refine ej_blk (ej_th ?_)
                refine cj_regionG (gj_step (y_add rfl rfl (by omega)) rfl rfl rfl (gj_step (y_move rfl) rfl rfl rfl (gj_nil ?_)))
                rw [← quL_snoc (nextN e.1 g.n) ⟨A91, c91, e.2.w ++ [k]⟩ (show p + 1 ≤ q.length by omega)]
                exact ej_nx (k + 1, q ++ [(nextN e.1 g.n, ⟨A91, c91, e.2.w ++ [k]⟩)], bq, kz, cz, fun i => fp i ∨ (ow 3 1 enInt A91 c91 (intsL (e.2.w ++ [k]))).fp i) (by first | omega | (simp only; omega)) ⟨by first | omega | (simp only; omega), by simp only; rw [List.getElem?_append_left hpl]; exact he, by
                  rw [show seqW (q ++ [(nextN e.1 g.n, ⟨A91, c91, e.2.w ++ [k]⟩)]) = seqW q ++ [(nextN e.1 g.n, e.2.w ++ [k])] from seqW_snoc _ _ _]
                  exact hB.add (seqW_get he) (gate_get hgk) hld (fun f hf => by
                    obtain ⟨f', hf', h9⟩ := seqW_mem hf
                    rw [← h9]; exact hnew f' hf'), fun x hx => by
                  rcases List.mem_append.1 hx with h | h
                  · exact hqk x h
                  · rw [List.mem_singleton.1 h]; exact hlt, fun b h => h.elim (hfp b) (hfo b)⟩ ⟨rfl, rfl, rfl, rfl, rfl, rfl, rfl, rfl, rfl, rfl, rfl, rfl, trivial⟩
            · have h57b := h57
              try simp only [sxb] at h57
              have hnod : (q.map (·.1)).Nodup := by rw [← seqW_keys]; exact hB.keys
              have hat := mapL_at hnod he
              have hsl := sq_len hnod (fun x hx => by have := hqk x hx; omega)
              have hql := quL_len q (p + 1)
              have hpl := (List.getElem?_eq_some_iff.1 he).1
              have hB2 := hB.next (seqW_get he) h51b (by rw [gates_len]; omega)
              refine cj_exit (ej_then_exit (ej_then_exit (ej_blk_hit (ej_blk ?_))))
              exact ej_nx (p + 1, q, b, kq, cq, fp) (by first | omega | (simp only; omega)) ⟨by first | omega | (simp only; omega), hB2, hqk, hfp⟩ ⟨rfl, rfl, rfl, rfl, rfl, rfl, rfl, rfl, trivial⟩
        · have h42b := h42
          try simp only [sxb] at h42
          have hql0 := quL_len q p
          obtain ⟨e1, e2⟩ := way_4 h0 (not_f h36b) (by rw [Int.toNat_natCast, Int.toNat_natCast]; exact way_none (hB.none (by unfold seqW; rw [List.length_map]; omega)))
          refine cj_exit (ej_then_exit (ej_then_exit (ej_blk_hit ?_)))
          exact ej_ct (none, q, fp) ⟨hfp, e1, e2⟩ ⟨rfl, rfl, rfl, rfl, trivial⟩
      · rintro ⟨x, q, fp⟩ ⟨hfp, hxi⟩
        dsimp only [List.cons_append, List.nil_append]
        refine cj_seq (cj_seq ?_)
        refine cj_regionG (gj_step (y_move rfl) rfl rfl rfl (gj_step (y_lss rfl rfl) rfl rfl rfl (gj_nil ?_)))
        refine ej_th ?_
        refine cj_cond rfl (fun h98 => ?_) (fun h98 => ?_)
        · have h98b := h98
          try simp only [sxb] at h98
          have hx := fnd_neg h98
          subst hx
          obtain ⟨e1, e2⟩ := hxi
          refine cj_seq ?_
          refine cj_regionG (gj_step (y_assign rfl) rfl rfl rfl (gj_step (y_assign rfl) rfl rfl rfl (gj_nil ?_)))
          refine ej_th (cj_ret (ej_then_ret (ej_noGoto_ret ?_)))
          exact ej_ret2 rfl Tryz.results23 rfl rfl (fun w' hp => ⟨none, 0, (by rw [e1, e2]; try rfl), hp.below, by rw [e2]; exact Res.nil⟩)
        · have h98b := h98
          try simp only [sxb] at h98
          obtain ⟨e, hx⟩ := fnd_pos h98
          subst hx
          obtain ⟨i, he, hnod, e1, e2⟩ := hxi
          have hat := mapL_at hnod he
          refine cj_skip (ej_th (cj_seq ?_))
          refine cj_regionG (gj_step (y_move rfl) rfl rfl rfl (gj_step (y_move rfl) rfl rfl rfl (gj_step (y_lkW wy0 hat Tryz.underlying94 Tryz.underlying3 Tryz.zeroValue24 rfl rfl) rfl rfl rfl (gj_step (y_assign rfl) rfl rfl rfl (gj_step (y_assign rfl) rfl rfl rfl (gj_nil ?_))))))
          refine ej_th (cj_ret (ej_noGoto_ret ?_))
          exact ej_ret2 rfl Tryz.results23 rfl rfl (fun w' hp => ⟨e.2.A, e.2.c, (by rw [e1, e2]; try rfl), hp.below, by rw [e2]; exact sl_fp ((hp.shared _ (.head _)).1 e (get_mem he)) (fun b h => ⟨hfp b h, (hp.shared _ (.head _)).2.1 b h⟩)⟩)

end Go.Proofs.YtomidcehahdmbaaGreat
namespace Go.Proofs.YtomidcehahdmbaaGreat
open Go.Sx Go.RowKit Vm
set_option maxRecDepth 20000
theorem ex_P8 : (playB exS exL)[7]? = some ⟨2, 10, 3, 0, 1⟩ := ex_P.2.2.2.2

set_option maxHeartbeats 3200000 in
theorem k_works  (w : World)  : Calls Tryz.prog 9 #[] w (fun e w' => e = .returned (.bool true) ∧ Grow w w') := by
  refine enter_pure (args := []) [] Tryz.func9 rfl (by rw [Tryz.ntmps9]; simp) (by simp) ?_
  refine cj_seq ?_
  refine cj_regionG (gj_step (y_assign rfl) rfl rfl rfl (gj_nil ?_))
  refine ej_th (cj_seq (cj_region ?_))
  refine oj_callR (X := { z : StrV × Nat × Nat // z.1.s = exS }) (fun z => .agg #[.slice z.1.1.Ar z.1.1.rooms.length z.1.1.cr, .slice z.1.1.Ag z.1.1.gates.length z.1.1.cg, .slice z.1.1.As z.1.1.staff.length z.1.1.cs]) (fun z => [strF (fun b => z.1.2.1 ≤ b ∧ b < z.1.2.2) z.1.1]) Tryz.call22 rfl (fun w1 hp => (k_strong w1).mono fun e w2 ⟨s, h1, h2, h3, h4⟩ => ⟨⟨(s, w1.heap.size, w2.heap.size), h1⟩, h2, h3, fun g hg => by
    rw [List.mem_singleton.1 hg]
    exact ⟨h4, fun b hb => .inr hb⟩⟩) rfl ?_
  rintro ⟨⟨s15, n15, m15⟩, he15⟩
  dsimp only [List.cons_append, List.nil_append] at he15 ⊢
  have hx15 := ex_V he15
  refine oj_step (y_call Tryz.call21 rfl (fun w hp => k_Enter s15 3 w (str_rd hp (.head _)))) rfl rfl rfl ?_
  refine oj_step (y_move rfl) rfl rfl rfl ?_
  refine oj_step (y_extract rfl rfl) rfl rfl rfl ?_
  refine oj_step (y_extract rfl rfl) rfl rfl rfl ?_
  refine oj_step (y_assign rfl) rfl rfl rfl ?_
  refine oj_step (y_assign rfl) rfl rfl rfl ?_
  refine oj_nil ?_
  refine ej_th (cj_seq ?_)
  rw [hx15.1.1, hx15.1.2]
  refine cj_region ?_
  refine oj_callR (X := { z : StrV × Nat × Nat // z.1.s = exS }) (fun z => .agg #[.slice z.1.1.Ar z.1.1.rooms.length z.1.1.cr, .slice z.1.1.Ag z.1.1.gates.length z.1.1.cg, .slice z.1.1.As z.1.1.staff.length z.1.1.cs]) (fun z => [strF (fun b => z.1.2.1 ≤ b ∧ b < z.1.2.2) z.1.1]) Tryz.call22 rfl (fun w1 hp => (k_strong w1).mono fun e w2 ⟨s, h1, h2, h3, h4⟩ => ⟨⟨(s, w1.heap.size, w2.heap.size), h1⟩, h2, h3, fun g hg => by
    rw [List.mem_singleton.1 hg]
    exact ⟨h4, fun b hb => .inr hb⟩⟩) rfl ?_
  rintro ⟨⟨s20, n20, m20⟩, he20⟩
  dsimp only [List.cons_append, List.nil_append] at he20 ⊢
  have hx20 := ex_V he20
  refine oj_callS (fun A c => .tuple #[.slice A (intsL (wayL s20 3 2)).length c, .int .i64 (wayE s20 3 2)]) 1 enInt (intsL (wayL s20 3 2)) Tryz.call23 rfl (fun w hp => k_Way s20 3 2 w (str_rd hp (.head _))) rfl (fun A21 c21 fp21 hfp21 => ?_)
  rw [hx20.2.1.1, hx20.2.1.2]
  refine oj_step (y_move rfl) rfl rfl rfl ?_
  refine oj_step (y_extract rfl rfl) rfl rfl rfl ?_
  refine oj_step (y_extract rfl rfl) rfl rfl rfl ?_
  refine oj_step (y_assign rfl) rfl rfl rfl ?_
  refine oj_step (y_assign rfl) rfl rfl rfl ?_
  refine oj_nil ?_
  refine ej_th (cj_seq (cj_region ?_))
  refine oj_callR (X := { z : StrV × Nat × Nat // z.1.s = exS }) (fun z => .agg #[.slice z.1.1.Ar z.1.1.rooms.length z.1.1.cr, .slice z.1.1.Ag z.1.1.gates.length z.1.1.cg, .slice z.1.1.As z.1.1.staff.length z.1.1.cs]) (fun z => [strF (fun b => z.1.2.1 ≤ b ∧ b < z.1.2.2) z.1.1]) Tryz.call22 rfl (fun w1 hp => (k_strong w1).mono fun e w2 ⟨s, h1, h2, h3, h4⟩ => ⟨⟨(s, w1.heap.size, w2.heap.size), h1⟩, h2, h3, fun g hg => by
    rw [List.mem_singleton.1 hg]
    exact ⟨h4, fun b hb => .inr hb⟩⟩) rfl ?_
  rintro ⟨⟨s25, n25, m25⟩, he25⟩
  dsimp only [List.cons_append, List.nil_append] at he25 ⊢
  have hx25 := ex_V he25
  refine oj_callS (fun A c => .tuple #[.slice A (intsL (grpsV s25 2)).length c, .int .i64 (roomE s25 2)]) 1 enInt (intsL (grpsV s25 2)) Tryz.call24 rfl (fun w hp => k_Groups s25 2 w (str_rd hp (.head _))) rfl (fun A26 c26 fp26 hfp26 => ?_)
  rw [hx25.2.2.1.1, hx25.2.2.1.2]
  refine oj_step (y_move rfl) rfl rfl rfl ?_
  refine oj_step (y_extract rfl rfl) rfl rfl rfl ?_
  refine oj_step (y_extract rfl rfl) rfl rfl rfl ?_
  refine oj_step (y_assign rfl) rfl rfl rfl ?_
  refine oj_step (y_assign rfl) rfl rfl rfl ?_
  refine oj_nil ?_
  refine ej_th (cj_seq (cj_region ?_))
  refine oj_callR (X := { z : StrV × Nat × Nat // z.1.s = exS }) (fun z => .agg #[.slice z.1.1.Ar z.1.1.rooms.length z.1.1.cr, .slice z.1.1.Ag z.1.1.gates.length z.1.1.cg, .slice z.1.1.As z.1.1.staff.length z.1.1.cs]) (fun z => [strF (fun b => z.1.2.1 ≤ b ∧ b < z.1.2.2) z.1.1]) Tryz.call22 rfl (fun w1 hp => (k_strong w1).mono fun e w2 ⟨s, h1, h2, h3, h4⟩ => ⟨⟨(s, w1.heap.size, w2.heap.size), h1⟩, h2, h3, fun g hg => by
    rw [List.mem_singleton.1 hg]
    exact ⟨h4, fun b hb => .inr hb⟩⟩) rfl ?_
  rintro ⟨⟨s30, n30, m30⟩, he30⟩
  dsimp only [List.cons_append, List.nil_append] at he30 ⊢
  have hx30 := ex_V he30
  refine oj_callS (fun A c => .tuple #[.slice A (intsL (grdsV s30 1)).length c, .int .i64 (roomE s30 1)]) 1 enInt (intsL (grdsV s30 1)) Tryz.call25 rfl (fun w hp => k_Guards s30 1 w (str_rd hp (.head _))) rfl (fun A31 c31 fp31 hfp31 => ?_)
  rw [hx30.2.2.2.1.1, hx30.2.2.2.1.2]
  refine oj_step (y_move rfl) rfl rfl rfl ?_
  refine oj_step (y_extract rfl rfl) rfl rfl rfl ?_
  refine oj_step (y_extract rfl rfl) rfl rfl rfl ?_
  refine oj_step (y_assign rfl) rfl rfl rfl ?_
  refine oj_step (y_assign rfl) rfl rfl rfl ?_
  refine oj_nil ?_
  refine ej_th (cj_seq (cj_seq (cj_region ?_)))
  refine oj_step (y_move rfl) rfl rfl rfl ?_
  refine oj_step (y_neq rfl rfl) rfl rfl rfl ?_
  refine oj_step (y_move rfl) rfl rfl rfl ?_
  refine oj_yes rfl rfl rfl ?_
  refine oj_step (y_move rfl) rfl rfl rfl ?_
  refine oj_yes rfl rfl rfl ?_
  refine oj_step (y_neq rfl rfl) rfl rfl rfl ?_
  refine oj_step (y_pick rfl rfl rfl) rfl rfl rfl ?_
  refine oj_step (y_move rfl) rfl rfl rfl ?_
  refine oj_yes rfl rfl rfl ?_
  refine oj_step (y_move rfl) rfl rfl rfl ?_
  refine oj_yes rfl rfl rfl ?_
  refine oj_step (y_neq rfl rfl) rfl rfl rfl ?_
  refine oj_step (y_pick rfl rfl rfl) rfl rfl rfl ?_
  refine oj_step (y_move rfl) rfl rfl rfl ?_
  refine oj_yes rfl rfl rfl ?_
  refine oj_step (y_move rfl) rfl rfl rfl ?_
  refine oj_yes rfl rfl rfl ?_
  refine oj_step (y_neq rfl rfl) rfl rfl rfl ?_
  refine oj_step (y_pick rfl rfl rfl) rfl rfl rfl ?_
  refine oj_step (y_move rfl) rfl rfl rfl ?_
  refine oj_yes rfl rfl rfl ?_
  refine oj_step (y_move rfl) rfl rfl rfl ?_
  refine oj_yes rfl rfl rfl ?_
  refine oj_step (y_neq rfl rfl) rfl rfl rfl ?_
  refine oj_step (y_pick rfl rfl rfl) rfl rfl rfl ?_
  refine oj_step (y_move rfl) rfl rfl rfl ?_
  refine oj_yes rfl rfl rfl ?_
  refine oj_step (y_move rfl) rfl rfl rfl ?_
  refine oj_yes rfl rfl rfl ?_
  refine oj_buildSlice (cs := [.int .i64 0, .int .i64 1]) [.int .i64 0, .int .i64 0] Tryz.underlying24 Tryz.sizeOf3 Tryz.zeroValue3 rfl rfl (by kernel_rfl) (by kernel_rfl) rfl (fun b54 => ?_)
  refine oj_yes rfl rfl rfl ?_
  refine oj_step (y_call Tryz.call12 rfl (fun w hp => k_Same (intsL [0, 1]) [0, 1] A21 (some ⟨b54, 0, none⟩) c21 2 w hp.rd (hp.rdLit (b := b54) (sz := 1) (enc := enInt) [0, 1] (fun _ => rfl) rfl (by unfold maxLen; simp)))) rfl rfl rfl ?_
  refine oj_yes rfl rfl rfl ?_
  refine oj_step (y_not rfl) rfl rfl rfl ?_
  refine oj_step (y_pick rfl rfl rfl) rfl rfl rfl ?_
  refine oj_step (y_move rfl) rfl rfl rfl ?_
  refine oj_yes rfl rfl rfl ?_
  refine oj_step (y_move rfl) rfl rfl rfl ?_
  refine oj_yes rfl rfl rfl ?_
  refine oj_buildSlice (cs := [.int .i64 3, .int .i64 5, .int .i64 6]) [.int .i64 0, .int .i64 0, .int .i64 0] Tryz.underlying24 Tryz.sizeOf3 Tryz.zeroValue3 rfl rfl (by kernel_rfl) (by kernel_rfl) rfl (fun b60 => ?_)
  refine oj_yes rfl rfl rfl ?_
  refine oj_step (y_call Tryz.call12 rfl (fun w hp => k_Same (intsL [3, 5, 6]) [3, 5, 6] A26 (some ⟨b60, 0, none⟩) c26 3 w hp.rd (hp.rdLit (b := b60) (sz := 1) (enc := enInt) [3, 5, 6] (fun _ => rfl) rfl (by unfold maxLen; simp)))) rfl rfl rfl ?_
  refine oj_yes rfl rfl rfl ?_
  refine oj_step (y_not rfl) rfl rfl rfl ?_
  refine oj_step (y_pick rfl rfl rfl) rfl rfl rfl ?_
  refine oj_step (y_move rfl) rfl rfl rfl ?_
  refine oj_yes rfl rfl rfl ?_
  refine oj_step (y_move rfl) rfl rfl rfl ?_
  refine oj_yes rfl rfl rfl ?_
  refine oj_buildSlice (cs := [.int .i64 5]) [.int .i64 0] Tryz.underlying24 Tryz.sizeOf3 Tryz.zeroValue3 rfl rfl (by kernel_rfl) (by kernel_rfl) rfl (fun b66 => ?_)
  refine oj_yes rfl rfl rfl ?_
  refine oj_step (y_call Tryz.call12 rfl (fun w hp => k_Same (intsL [5]) [5] A31 (some ⟨b66, 0, none⟩) c31 1 w hp.rd (hp.rdLit (b := b66) (sz := 1) (enc := enInt) [5] (fun _ => rfl) rfl (by unfold maxLen; simp)))) rfl rfl rfl ?_
  refine oj_yes rfl rfl rfl ?_
  refine oj_step (y_not rfl) rfl rfl rfl ?_
  refine oj_step (y_pick rfl rfl rfl) rfl rfl rfl ?_
  refine oj_nil ?_
  refine ej_th ?_
  refine cj_condF rfl (by decide) ?_
  refine cj_skip (ej_th (cj_seq (cj_region ?_)))
  refine oj_callR (X := { z : StrV × Nat × Nat // z.1.s = exS }) (fun z => .agg #[.slice z.1.1.Ar z.1.1.rooms.length z.1.1.cr, .slice z.1.1.Ag z.1.1.gates.length z.1.1.cg, .slice z.1.1.As z.1.1.staff.length z.1.1.cs]) (fun z => [strF (fun b => z.1.2.1 ≤ b ∧ b < z.1.2.2) z.1.1]) Tryz.call22 rfl (fun w1 hp => (k_strong w1).mono fun e w2 ⟨s, h1, h2, h3, h4⟩ => ⟨⟨(s, w1.heap.size, w2.heap.size), h1⟩, h2, h3, fun g hg => by
    rw [List.mem_singleton.1 hg]
    exact ⟨h4, fun b hb => .inr hb⟩⟩) rfl ?_
  rintro ⟨⟨s71, n71, m71⟩, he71⟩
  dsimp only [List.cons_append, List.nil_append] at he71 ⊢
  have hx71 := ex_V he71
  refine oj_callS (fun A c => .slice A exL.length 3) 8 encCa exL Tryz.call26 rfl (fun w hp => k_log w) rfl (fun A72 c72 fp72 hfp72 => ?_)
  refine oj_step (y_call Tryz.call5 rfl (fun w hp => k_Play s71 exL A72 3 w (str_rd hp (.tail _ (.head _))) hp.rd)) rfl rfl rfl ?_
  refine oj_step (y_move rfl) rfl rfl rfl ?_
  refine oj_step (y_extract rfl rfl) rfl rfl rfl ?_
  refine oj_step (y_extract rfl rfl) rfl rfl rfl ?_
  refine oj_step (y_extract rfl rfl) rfl rfl rfl ?_
  refine oj_alloc Tryz.zeroValue31 rfl rfl (fun b9 => ?_)
  rw [he71, ex_P.1.1, ex_P.1.2]
  refine oj_store (vs := ((playB exS exL).flatMap encBa)) (n := 160) (hset := set_all _ _ (by rw [bf_len (playB_len _)]; rfl)) rfl rfl rfl (bf_one _) Tryz.sizeOf31 (bf_len (playB_len _)) ?_
  refine oj_step (y_assign rfl) rfl rfl rfl ?_
  refine oj_step (y_assign rfl) rfl rfl rfl ?_
  refine oj_nil ?_
  refine ej_th (cj_seq (cj_region ?_))
  refine oj_callR (X := { z : StrV × Nat × Nat // z.1.s = exS }) (fun z => .agg #[.slice z.1.1.Ar z.1.1.rooms.length z.1.1.cr, .slice z.1.1.Ag z.1.1.gates.length z.1.1.cg, .slice z.1.1.As z.1.1.staff.length z.1.1.cs]) (fun z => [strF (fun b => z.1.2.1 ≤ b ∧ b < z.1.2.2) z.1.1]) Tryz.call22 rfl (fun w1 hp => (k_strong w1).mono fun e w2 ⟨s, h1, h2, h3, h4⟩ => ⟨⟨(s, w1.heap.size, w2.heap.size), h1⟩, h2, h3, fun g hg => by
    rw [List.mem_singleton.1 hg]
    exact ⟨h4, fun b hb => .inr hb⟩⟩) rfl ?_
  rintro ⟨⟨s78, n78, m78⟩, he78⟩
  dsimp only [List.cons_append, List.nil_append] at he78 ⊢
  have hx78 := ex_V he78
  refine oj_callS (fun A c => .slice A exL.length 3) 8 encCa exL Tryz.call26 rfl (fun w hp => k_log w) rfl (fun A79 c79 fp79 hfp79 => ?_)
  refine oj_step (y_call Tryz.call7 rfl (fun w hp => k_Where s78 exL A79 3 7 5 w (str_rd hp (.tail _ (.head _))) hp.rd (Nat.le_refl 3))) rfl rfl rfl ?_
  refine oj_step (y_move rfl) rfl rfl rfl ?_
  refine oj_step (y_extract rfl rfl) rfl rfl rfl ?_
  refine oj_step (y_extract rfl rfl) rfl rfl rfl ?_
  refine oj_step (y_assign rfl) rfl rfl rfl ?_
  refine oj_step (y_assign rfl) rfl rfl rfl ?_
  refine oj_nil ?_
  refine ej_th (cj_seq ?_)
  rw [he78, ex_P.2.1.1, ex_P.2.1.2]
  refine cj_region ?_
  refine oj_callR (X := { z : StrV × Nat × Nat // z.1.s = exS }) (fun z => .agg #[.slice z.1.1.Ar z.1.1.rooms.length z.1.1.cr, .slice z.1.1.Ag z.1.1.gates.length z.1.1.cg, .slice z.1.1.As z.1.1.staff.length z.1.1.cs]) (fun z => [strF (fun b => z.1.2.1 ≤ b ∧ b < z.1.2.2) z.1.1]) Tryz.call22 rfl (fun w1 hp => (k_strong w1).mono fun e w2 ⟨s, h1, h2, h3, h4⟩ => ⟨⟨(s, w1.heap.size, w2.heap.size), h1⟩, h2, h3, fun g hg => by
    rw [List.mem_singleton.1 hg]
    exact ⟨h4, fun b hb => .inr hb⟩⟩) rfl ?_
  rintro ⟨⟨s84, n84, m84⟩, he84⟩
  dsimp only [List.cons_append, List.nil_append] at he84 ⊢
  have hx84 := ex_V he84
  refine oj_callS (fun A c => .slice A exL.length 3) 8 encCa exL Tryz.call26 rfl (fun w hp => k_log w) rfl (fun A85 c85 fp85 hfp85 => ?_)
  refine oj_step (y_sliceTo (xs := exL) 2 Tryz.underlying27 Tryz.sizeOf60 rfl rfl (by decide) (by decide)) rfl rfl rfl ?_
  refine oj_callS (fun A c => .tuple #[.slice A (intsL (suspV s84.s (exL.take 2) 7)).length c, .int .i64 (suspE s84.s (exL.take 2) 7)]) 1 enInt (intsL (suspV s84.s (exL.take 2) 7)) Tryz.call10 rfl (fun w hp => k_Suspects s84 (exL.take 2) A85 3 7 w (str_rd hp (.tail _ (.head _))) (sl_take hp.rd 2) (by decide)) rfl (fun A87 c87 fp87 hfp87 => ?_)
  rw [he84, ex_P.2.2.1, ex_P.2.2.2.1]
  refine oj_step (y_move rfl) rfl rfl rfl ?_
  refine oj_step (y_extract rfl rfl) rfl rfl rfl ?_
  refine oj_step (y_extract rfl rfl) rfl rfl rfl ?_
  refine oj_step (y_assign rfl) rfl rfl rfl ?_
  refine oj_step (y_assign rfl) rfl rfl rfl ?_
  refine oj_nil ?_
  refine ej_th (cj_seq (cj_region ?_))
  refine oj_callR (X := { z : StrV × Nat × Nat // z.1.s = exS }) (fun z => .agg #[.slice z.1.1.Ar z.1.1.rooms.length z.1.1.cr, .slice z.1.1.Ag z.1.1.gates.length z.1.1.cg, .slice z.1.1.As z.1.1.staff.length z.1.1.cs]) (fun z => [strF (fun b => z.1.2.1 ≤ b ∧ b < z.1.2.2) z.1.1]) Tryz.call22 rfl (fun w1 hp => (k_strong w1).mono fun e w2 ⟨s, h1, h2, h3, h4⟩ => ⟨⟨(s, w1.heap.size, w2.heap.size), h1⟩, h2, h3, fun g hg => by
    rw [List.mem_singleton.1 hg]
    exact ⟨h4, fun b hb => .inr hb⟩⟩) rfl ?_
  rintro ⟨⟨s91, n91, m91⟩, he91⟩
  dsimp only [List.cons_append, List.nil_append] at he91 ⊢
  have hx91 := ex_V he91
  refine oj_step (y_call Tryz.call27 rfl (fun w hp => k_Closed s91 1 3 w (str_rd hp (.head _)))) rfl rfl rfl ?_
  refine oj_step (y_move rfl) rfl rfl rfl ?_
  refine oj_step (y_extract rfl rfl) rfl rfl rfl ?_
  refine oj_step (y_extract rfl rfl) rfl rfl rfl ?_
  refine oj_step (y_assign rfl) rfl rfl rfl ?_
  refine oj_step (y_assign rfl) rfl rfl rfl ?_
  refine oj_nil ?_
  refine ej_th (cj_seq ?_)
  rw [hx91.2.2.2.2.1, hx91.2.2.2.2.2]
  refine cj_region ?_
  refine oj_step (y_move rfl) rfl rfl rfl ?_
  refine oj_step (y_eql rfl rfl) rfl rfl rfl ?_
  refine oj_step (y_move rfl) rfl rfl rfl ?_
  refine oj_yes rfl rfl rfl ?_
  refine oj_step (y_move rfl) rfl rfl rfl ?_
  refine oj_yes rfl rfl rfl ?_
  refine oj_step (y_eql rfl rfl) rfl rfl rfl ?_
  refine oj_step (y_pick rfl rfl rfl) rfl rfl rfl ?_
  refine oj_step (y_move rfl) rfl rfl rfl ?_
  refine oj_yes rfl rfl rfl ?_
  refine oj_step (y_move rfl) rfl rfl rfl ?_
  refine oj_yes rfl rfl rfl ?_
  refine oj_step (y_eql rfl rfl) rfl rfl rfl ?_
  refine oj_step (y_pick rfl rfl rfl) rfl rfl rfl ?_
  refine oj_step (y_move rfl) rfl rfl rfl ?_
  refine oj_yes rfl rfl rfl ?_
  refine oj_step (y_move rfl) rfl rfl rfl ?_
  refine oj_yes rfl rfl rfl ?_
  refine oj_step (y_eql rfl rfl) rfl rfl rfl ?_
  refine oj_step (y_pick rfl rfl rfl) rfl rfl rfl ?_
  refine oj_step (y_move rfl) rfl rfl rfl ?_
  refine oj_yes rfl rfl rfl ?_
  refine oj_step (y_move rfl) rfl rfl rfl ?_
  refine oj_yes rfl rfl rfl ?_
  refine oj_step (y_eql rfl rfl) rfl rfl rfl ?_
  refine oj_step (y_pick rfl rfl rfl) rfl rfl rfl ?_
  refine oj_step (y_move rfl) rfl rfl rfl ?_
  refine oj_yes rfl rfl rfl ?_
  refine oj_step (y_ixArrC 35 Tryz.underlying31 Tryz.sizeOf30 rfl rfl (by decide) (by decide)) rfl rfl rfl ?_
  refine oj_yes rfl rfl rfl ?_
  refine oj_step (y_loadN (hv := tk_bag (i := 7) ex_P8) Tryz.isAgg30 Tryz.sizeOf30 rfl) rfl rfl rfl ?_
  refine oj_yes rfl rfl rfl ?_
  refine oj_step (y_build (cs := [.int .i64 2, .int .i64 10, .int .i64 3, .int .i64 0, .int .i64 1]) st30 rfl (by kernel_rfl)) rfl rfl rfl ?_
  refine oj_yes rfl rfl rfl ?_
  refine oj_step (y_bin rfl rfl (fun x y w => eq30 _ _ _ _ _ _ _ _ _ _ x y w)) rfl rfl rfl ?_
  refine oj_step (y_pick rfl rfl rfl) rfl rfl rfl ?_
  refine oj_step (y_move rfl) rfl rfl rfl ?_
  refine oj_yes rfl rfl rfl ?_
  refine oj_step (y_move rfl) rfl rfl rfl ?_
  refine oj_yes rfl rfl rfl ?_
  refine oj_step (y_eql rfl rfl) rfl rfl rfl ?_
  refine oj_step (y_pick rfl rfl rfl) rfl rfl rfl ?_
  refine oj_step (y_move rfl) rfl rfl rfl ?_
  refine oj_yes rfl rfl rfl ?_
  refine oj_step (y_move rfl) rfl rfl rfl ?_
  refine oj_yes rfl rfl rfl ?_
  refine oj_buildSlice (cs := [.int .i64 1, .int .i64 4]) [.int .i64 0, .int .i64 0] Tryz.underlying24 Tryz.sizeOf3 Tryz.zeroValue3 rfl rfl (by kernel_rfl) (by kernel_rfl) rfl (fun b125 => ?_)
  refine oj_yes rfl rfl rfl ?_
  refine oj_step (y_call Tryz.call12 rfl (fun w hp => k_Same (intsL [1, 4]) [1, 4] A87 (some ⟨b125, 0, none⟩) c87 2 w hp.rd (hp.rdLit (b := b125) (sz := 1) (enc := enInt) [1, 4] (fun _ => rfl) rfl (by unfold maxLen; simp)))) rfl rfl rfl ?_
  refine oj_step (y_pick rfl rfl rfl) rfl rfl rfl ?_
  refine oj_step (y_move rfl) rfl rfl rfl ?_
  refine oj_yes rfl rfl rfl ?_
  refine oj_step (y_move rfl) rfl rfl rfl ?_
  refine oj_step (y_pick rfl rfl rfl) rfl rfl rfl ?_
  refine oj_step (y_assign rfl) rfl rfl rfl ?_
  refine oj_nil ?_
  refine ej_th (cj_ret ?_)
  exact ej_ret1 rfl Tryz.results9 rfl (fun w' hp => ⟨rfl, hp.below⟩)

end Go.Proofs.YtomidcehahdmbaaGreat
