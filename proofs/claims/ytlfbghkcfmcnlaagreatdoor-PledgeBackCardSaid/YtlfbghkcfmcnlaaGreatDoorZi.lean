/- Texts of ours, joined: 5 of them. Conditions: none. -/
import Derived.Test.YtlfbghkcfmcnlaaGreatDoorZh
namespace Go.Proofs.YtlfbghkcfmcnlaaGreatDoor
open Go.Sx Go.RowKit
set_option maxRecDepth 20000
set_option maxHeartbeats 6400000 in
theorem k_item1 (b m bs : Nat) (T : List ByteArray) (fpT : Nat → Prop) (g : List (ByteArray × ClassV)) (fpC : Nat → Prop) (d k : Nat) (w : World) (hgn : ∀ p ∈ g, p.2.traits.length ≤ 8 ∧ ∀ t ∈ p.2.traits, t.name.size ≤ 16) (hsz : ∀ u ∈ T, u.size ≤ 65536) (hN : T.length ≤ 70000) (hk : k ≤ T.length) (hd4 : d ≤ 4) (hO : ∀ f ∈ [ownB b (cellsB 81 [.map (some m), rstV bs T.length k])], f.P w ∧ ∀ b, f.fp b → b < w.heap.size) (hap : [ownB b (cellsB 81 [.map (some m), rstV bs T.length k])].Pairwise (fun f g => ∀ b, f.fp b → ¬ g.fp b)) (hS : ∀ f ∈ [sl fpT 1 enStr (some ⟨bs, 0, none⟩) T, mp ekS evC m g, clsF fpC g], f.P w ∧ ∀ i, f.fp i → i < w.heap.size ∧ ∀ o ∈ [ownB b (cellsB 81 [.map (some m), rstV bs T.length k])], ¬ o.fp i) (ih : ∀ d1, d1 + 1 = d → ∀ k1, k1 ≤ T.length → ∀ (w1 : World) (_ : ∀ f ∈ [ownB b (cellsB 81 [.map (some m), rstV bs T.length k1])], f.P w1 ∧ ∀ b, f.fp b → b < w1.heap.size) (_ : [ownB b (cellsB 81 [.map (some m), rstV bs T.length k1])].Pairwise (fun f g => ∀ b, f.fp b → ¬ g.fp b)) (_ : ∀ f ∈ [sl fpT 1 enStr (some ⟨bs, 0, none⟩) T, mp ekS evC m g, clsF fpC g], f.P w1 ∧ ∀ i, f.fp i → i < w1.heap.size ∧ ∀ o ∈ [ownB b (cellsB 81 [.map (some m), rstV bs T.length k1])], ¬ o.fp i), Calls Tryz.prog 33 #[.pointer (some ⟨b, 0, none⟩), .int .i64 (4 - (d1 : Int))] w1 (fun e w' => (∃ z : ItemV × Nat × Nat × Nat, (rdI g d1 (T.drop k1) = some (z.1.pl, T.drop z.2.1) ∧ k1 < z.2.1 ∧ z.2.1 ≤ T.length ∧ w1.heap.size ≤ z.2.2.1) ∧ e = .returned (evI z.1) ∧ Giv [ownB b (cellsB 81 [.map (some m), rstV bs T.length k1])] w1 w' [ownB b (cellsB 81 [.map (some m), rstV bs T.length z.2.1]), itF (fun i => z.2.2.1 ≤ i ∧ i < z.2.2.2) [z.1]]) ∨ (∃ y : Nat, (rdI g d1 (T.drop k1) = none ∧ y ≤ T.length) ∧ e = .panicked chW ∧ Giv [ownB b (cellsB 81 [.map (some m), rstV bs T.length k1])] w1 w' [ownB b (cellsB 81 [.map (some m), rstV bs T.length y])]))) : Calls Tryz.prog 33 #[.pointer (some ⟨b, 0, none⟩), .int .i64 (4 - (d : Int))] w (fun e w' => (∃ z : ItemV × Nat × Nat × Nat, (rdI g d (T.drop k) = some (z.1.pl, T.drop z.2.1) ∧ k < z.2.1 ∧ z.2.1 ≤ T.length ∧ w.heap.size ≤ z.2.2.1) ∧ e = .returned (evI z.1) ∧ Giv [ownB b (cellsB 81 [.map (some m), rstV bs T.length k])] w w' [ownB b (cellsB 81 [.map (some m), rstV bs T.length z.2.1]), itF (fun i => z.2.2.1 ≤ i ∧ i < z.2.2.2) [z.1]]) ∨ (∃ y : Nat, (rdI g d (T.drop k) = none ∧ y ≤ T.length) ∧ e = .panicked chW ∧ Giv [ownB b (cellsB 81 [.map (some m), rstV bs T.length k])] w w' [ownB b (cellsB 81 [.map (some m), rstV bs T.length y])])) := by
  refine enterO (args := [.pointer (some ⟨b, 0, none⟩), .int .i64 (4 - (d : Int))]) [ownB b (cellsB 81 [.map (some m), rstV bs T.length k])] [sl fpT 1 enStr (some ⟨bs, 0, none⟩) T, mp ekS evC m g, clsF fpC g] Tryz.func33 rfl (by rw [Tryz.ntmps33]; simp) hO hap hS ?_
  refine cj_seq (cj_region ?_)
  refine oj_alloc Tryz.zeroValue26 rfl rfl (fun b4 => ?_)
  refine oj_nil ?_
  refine ej_th (cj_seq (cj_region ?_))
  refine oj_step (y_move rfl) rfl rfl rfl ?_
  refine oj_callLP (X := ByteArray) (Y := Unit) (fun z => .string z) (fun _ => chW) (fun z => T[k]? = some z) (fun _ => T.length ≤ k) [ownB b (cellsB 81 [.map (some m), rstV bs T.length k])] (fun _ => [ownB b (cellsB 81 [.map (some m), rstV bs T.length (k + 1)])]) (fun _ => [ownB b (cellsB 81 [.map (some m), rstV bs T.length k])]) Tryz.call67 rfl rfl (fun w1 hp => by
    obtain ⟨q1, q2, q3⟩ := hp.ownL (Os := [ownB b (cellsB 81 [.map (some m), rstV bs T.length k])]) inferInstance
    exact k_take b m bs k T fpT w1 (by omega) q1 q2 (fun f hf => q3 f (by rw [List.mem_singleton.1 hf]; simp))) rfl (fun _ hT13 => ?_) (fun s13 hs13 => ?_)
  · dsimp only [List.cons_append, List.nil_append]
    have hno : rdI g d (T.drop k) = none := by
      rw [head_nil hT13]
      cases d <;> rfl
    repeat (first | with_reducible refine ej_then_pan ?_ | with_reducible refine ej_blk_pan ?_ | with_reducible refine ej_noGoto_pan ?_ | with_reducible refine ej_np_pan ?_)
    exact ej_pan rfl (fun w' hp => .inr ⟨k, ⟨hno, by omega⟩, rfl, hp.givT [ownB b (cellsB 81 [.map (some m), rstV bs T.length k])]⟩)
  dsimp only [List.cons_append, List.nil_append]
  refine oj_step (y_build (cs := [.string s13, .slice none 0 0, .slice none 0 0]) st26 rfl (by kernel_rfl)) rfl rfl rfl ?_
  refine oj_alloc Tryz.zeroValue26 rfl rfl (fun b5 => ?_)
  refine oj_store rfl rfl rfl rfl Tryz.sizeOf26 rfl ?_
  refine oj_nil ?_
  refine ej_th (cj_seq ?_)
  refine cj_plan 13 (by kernel_rfl) (by kernel_rfl) ?_
  refine pl_y 0 rfl (y_move rfl) rfl rfl rfl rfl (by kernel_rfl) ?_
  refine pl_y 1 rfl (y_nil rfl) rfl rfl rfl rfl (by kernel_rfl) ?_
  refine pl_y 2 rfl (y_fa0 fa81_0 rfl) rfl rfl rfl rfl (by kernel_rfl) ?_
  refine pl_y 3 rfl (y_load1 Tryz.isAgg73 rfl rfl) rfl rfl rfl rfl (by kernel_rfl) ?_
  refine pl_y 4 rfl (y_fa0 fa26_0 rfl) rfl rfl rfl rfl (by kernel_rfl) ?_
  refine pl_y 5 rfl (y_load1 Tryz.isAgg9 rfl rfl) rfl rfl rfl rfl (by kernel_rfl) ?_
  refine pl_y 6 rfl (y_lookupS (ek := ekS) (ev := evC) zC Tryz.underlying73 Tryz.underlying9 Tryz.zeroValue37 rfl rfl) rfl rfl rfl rfl (by kernel_rfl) ?_
  refine pl_y 7 rfl (y_move rfl) rfl rfl rfl rfl (by kernel_rfl) ?_
  refine pl_y 8 rfl (y_extract rfl rfl) rfl rfl rfl rfl (by kernel_rfl) ?_
  refine pl_y 9 rfl (y_extract rfl rfl) rfl rfl rfl rfl (by kernel_rfl) ?_
  refine pl_w1 10 (by kernel_rfl) rfl rfl (pl_fire rfl rfl rfl (by kernel_rfl) ?_)
  refine oj_alloc Tryz.zeroValue37 rfl rfl (fun b6 => ?_)
  refine oj_nil ?_
  refine ej_pl (lt_y (y_extract rfl rfl) rfl (lt_y (y_extract rfl rfl) rfl (lt_y (y_move rfl) rfl (lt_y (y_lookupS (ek := ekS) (ev := evC) zC Tryz.underlying73 Tryz.underlying9 Tryz.zeroValue37 rfl rfl) rfl (lt_y (y_load1 Tryz.isAgg9 rfl rfl) rfl (lt_y (y_fa0 fa26_0 rfl) rfl (lt_y (y_load1 Tryz.isAgg73 rfl rfl) rfl (lt_y (y_fa0 fa81_0 rfl) rfl (lt_y (y_nil rfl) rfl (lt_y (y_move rfl) rfl (lt_nil))))))))))) ?_
  refine pl_w1 11 (by kernel_rfl) rfl rfl (pl_fire rfl rfl rfl (by kernel_rfl) ?_)
  refine oj_store rfl rfl rfl rfl Tryz.sizeOf37 rfl ?_
  refine oj_nil ?_
  refine ej_pl (lt_y (y_extract rfl rfl) rfl (lt_w (by kernel_rfl) (lt_w (by kernel_rfl) (lt_w (by kernel_rfl) (lt_w (by kernel_rfl) (lt_w (by kernel_rfl) (lt_w (by kernel_rfl) (lt_w (by kernel_rfl) (lt_w (by kernel_rfl) (lt_w (by kernel_rfl) (lt_nil))))))))))) ?_
  refine pl_y 12 rfl (y_assign rfl) rfl rfl rfl rfl (by kernel_rfl) ?_
  refine pl_end (by kernel_rfl) ?_
  refine ej_th (cj_seq (cj_seq ?_))
  refine cj_regionG (gj_step (y_move rfl) rfl rfl rfl (gj_step (y_not rfl) rfl rfl rfl (gj_step (y_move rfl) rfl rfl rfl (gj_g 2 27 29 rfl rfl rfl rfl (fun hg27 => gj_yes rfl rfl rfl (y_move rfl) rfl rfl (gj_yes rfl rfl rfl (y_gtr rfl rfl) rfl rfl (gj_nil rfl))) (gj_step (y_or rfl rfl rfl) rfl rfl rfl (gj_nil ?_))))))
  refine ej_th ?_
  refine cj_cond rfl (fun h30 => ?_) (fun h30 => ?_)
  · have h30b := h30
    try simp only [sxb] at h30
    have hkl := (List.getElem?_eq_some_iff.1 hs13).1
    have hno : rdI g d (T.drop k) = none := by
      rw [(head_drop hs13).2.2]
      cases d with
      | zero => rfl
      | succ d =>
        rw [rdI]
        cases hc : getL g s13 with
        | none => rfl
        | some c =>
          rw [hc] at h30b
          simp at h30b
          omega
    refine cj_region ?_
    refine oj_step (y_build st122 rfl rfl) rfl rfl rfl ?_
    refine oj_step (y_iface rfl (by kernel_rfl)) rfl rfl rfl ?_
    refine oj_panic rfl ?_
    repeat (first | with_reducible refine ej_then_pan ?_ | with_reducible refine ej_blk_pan ?_ | with_reducible refine ej_noGoto_pan ?_ | with_reducible refine ej_np_pan ?_)
    first | exact ej_pan rfl (fun w' hp => .inr ⟨k + 1, ⟨hno, by omega⟩, rfl, hp.givT [ownB b (cellsB 81 [.map (some m), rstV bs T.length (k + 1)])]⟩) | exact ej_pan rfl (fun w' hp => .inr ⟨k1, ⟨hno, by omega⟩, rfl, hp.givT [ownB b (cellsB 81 [.map (some m), rstV bs T.length k1])]⟩) | exact ej_pan rfl (fun w' hp => .inr ⟨k3 + 1, ⟨hno, by omega⟩, rfl, hp.givT [ownB b (cellsB 81 [.map (some m), rstV bs T.length (k3 + 1)])]⟩)
  · have h30b := h30
    try simp only [sxb] at h30
    have hkl := (List.getElem?_eq_some_iff.1 hs13).1
    obtain ⟨c, hc⟩ : ∃ c, getL g s13 = some c := by
      cases hc : getL g s13 with
      | none => rw [hc] at h30b; simp at h30b
      | some c => exact ⟨c, rfl⟩
    rw [hc] at h30b ⊢
    dsimp only [Option.getD_some]
    obtain ⟨d, rfl⟩ : ∃ d1, d = d1 + 1 := by
      cases d with
      | zero => simp at h30b
      | succ d => exact ⟨d, rfl⟩
    have hrd := rdI_s (d := d) hs13 hc
    obtain ⟨pc, hpc, hpe⟩ := getL_mem hc
    obtain ⟨hc8, hcn⟩ := hgn pc hpc
    rw [hpe] at hc8 hcn
    refine cj_addS (sl fpC 3 encTr c.At c.traits) (fun w1 hp => by have h9 := cls_add hp (fp := fpC) (g := g) (by simp) hpc; rw [hpe] at h9; exact h9) ?_
    refine cj_skip (ej_th (cj_seq (cj_seq ?_)))
    refine cj_regionG (gj_step (y_fa fa37_1 rfl) rfl rfl rfl (gj_step (y_load1 Tryz.isAgg35 rfl rfl) rfl rfl rfl (gj_step (y_lenA Tryz.underlying35 rfl) rfl rfl rfl (gj_step (y_move rfl) rfl rfl rfl (gj_nil ?_)))))
    refine ej_th (cj_block ?_)
    refine cj_ownNil 9 1 enStr ?_
    refine cj_takes [ow 9 1 enStr none 0 ([] : List ByteArray), ownB b (cellsB 81 [.map (some m), rstV bs T.length (k + 1)]), ownB b6 (cellsB 37 (encCl c)), ownB b5 (cellsB 26 [.string s13, .slice none 0 0, .slice none 0 0]), ownB b4 (cellsB 26 [.string ⟨#[]⟩, .slice none 0 0, .slice none 0 0])] ?_
    refine cj_lpi (X := Nat × Nat × Option Addr × Nat × List ByteArray) [(0, _), (1, _), (4, _), (5, _), (34, _), (35, _)] (fun ⟨i, k1, A1, c1, ss⟩ => i ≤ c.traits.length ∧ (k + 1 ≤ k1 ∧ k1 ≤ T.length) ∧ ss.length = i ∧ (∀ u ∈ ss, u.size ≤ 65536) ∧ rdS c.traits (T.drop (k + 1)) = aftS ss (rdS (c.traits.drop i) (T.drop k1))) (fun ⟨i, k1, A1, c1, ss⟩ => [(36, .int .i64 (i : Nat))]) (fun ⟨i, k1, A1, c1, ss⟩ => [ow 9 1 enStr A1 c1 ss, ownB b (cellsB 81 [.map (some m), rstV bs T.length k1]), ownB b6 (cellsB 37 (encCl c)), ownB b5 (cellsB 26 [.string s13, .slice A1 ss.length c1, .slice none 0 0]), ownB b4 (cellsB 26 [.string ⟨#[]⟩, .slice none 0 0, .slice none 0 0])]) (fun ⟨i, k1, A1, c1, ss⟩ => [sl fpC 3 encTr c.At c.traits, sl fpT 1 enStr (some ⟨bs, 0, none⟩) T, mp ekS evC m g, clsF fpC g]) (fun ⟨i, k1, A1, c1, ss⟩ => c.traits.length - i) (0, k + 1, none, 0, []) (⟨Nat.zero_le _, ⟨Nat.le_refl _, by omega⟩, rfl, fun u hu => (by cases hu), by simp [aftS]⟩) ⟨rfl, rfl, rfl, rfl, rfl, rfl, rfl, trivial⟩ ?_
    rintro ⟨i, k1, A1, c1, ss⟩ ⟨hi, hk1, hsl, hss, hrs⟩
    dsimp only [List.cons_append, List.nil_append]
    refine cj_seq ?_
    refine cj_regionG (gj_step (y_lss rfl rfl) rfl rfl rfl (gj_nil ?_))
    refine ej_th (cj_seq ?_)
    refine cj_cond rfl (fun h37 => ?_) (fun h37 => ?_)
    · have h37b := h37
      try simp only [sxb] at h37
      obtain ⟨t, ht⟩ : ∃ t, c.traits[i]? = some t := ⟨_, List.getElem?_eq_getElem (by omega)⟩
      have htn := hcn t (List.mem_of_getElem? ht)
      have htd : c.traits.drop i = t :: c.traits.drop (i + 1) := by
        obtain ⟨h1, h2⟩ := List.getElem?_eq_some_iff.1 ht
        rw [List.drop_eq_getElem_cons h1, h2]
      have hHs : ((T.drop k1).headD ⟨#[]⟩).size ≤ 65536 := by
        by_cases h1 : k1 < T.length
        · have h2 := List.getElem?_eq_getElem h1
          rw [(head_drop h2).1]
          exact hsz _ (List.getElem_mem h1)
        · rw [head_nil (by omega)]; decide
      refine cj_skip (ej_th (cj_seq (cj_block (cj_seq (cj_region ?_)))))
      refine oj_step (y_ixR (reads_sl) Tryz.underlying35 Tryz.sizeOf39 rfl rfl (⟨by omega, by omega⟩)) rfl rfl rfl ?_
      refine oj_step (y_ldW (reads_sl) Tryz.isAgg39 Tryz.sizeOf39 rfl (ht) (fun _ => rfl)) rfl rfl rfl ?_
      refine oj_alloc Tryz.zeroValue39 rfl rfl (fun b9 => ?_)
      refine oj_store rfl rfl rfl rfl Tryz.sizeOf39 rfl ?_
      refine oj_nil ?_
      refine ej_th (cj_seq ?_)
      refine cj_draw (by kernel_rfl) (by kernel_rfl) ?_
      refine gj_step (y_move rfl) rfl rfl rfl (?_)
      refine gj_step (y_call Tryz.call69 rfl (fun w hp => k_next b m bs k1 T w hp.own1 hp.rd (by omega))) rfl rfl rfl ?_
      refine gj_step (y_fa0 fa39_0 rfl) rfl rfl rfl (gj_step (y_load1 Tryz.isAgg9 rfl rfl) rfl rfl rfl (gj_step (y_addS rfl rfl (by have h9 := htn; have h61 : (⟨#[61]⟩ : ByteArray).size = 1 := rfl; simp; omega)) rfl rfl rfl (?_)))
      refine gj_step (y_call Tryz.call68 rfl (fun w hp => cutp_call ((T.drop k1).headD ⟨#[]⟩) (t.name ++ tEq) w)) rfl rfl rfl ?_
      refine gj_step (y_move rfl) rfl rfl rfl (gj_step (y_extract rfl rfl) rfl rfl rfl (gj_step (y_extract rfl rfl) rfl rfl rfl (gj_step (y_assign rfl) rfl rfl rfl (gj_step (y_assign rfl) rfl rfl rfl (?_)))))
      refine gj_nil ?_
      refine ej_th (cj_seq (cj_seq ?_))
      generalize hsv : (⟨(if (by_ (t.name ++ tEq)).isPrefixOf (by_ ((T.drop k1).headD ⟨#[]⟩)) = true then (by_ ((T.drop k1).headD ⟨#[]⟩)).drop (by_ (t.name ++ tEq)).length else by_ ((T.drop k1).headD ⟨#[]⟩)).toArray⟩ : ByteArray) = sv
      refine cj_regionG (gj_step (y_move rfl) rfl rfl rfl (gj_step (y_move rfl) rfl rfl rfl (gj_g 2 50 52 rfl rfl rfl rfl (fun hg50 => gj_yes rfl rfl rfl (y_move rfl) rfl rfl (gj_yes rfl rfl rfl (y_eqlS rfl rfl) rfl rfl (gj_nil rfl))) (gj_step (y_and rfl rfl rfl) rfl rfl rfl (gj_nil ?_)))))
      refine ej_th ?_
      refine cj_cond rfl (fun h53 => ?_) (fun h53 => ?_)
      · have h53b := h53
        try simp only [sxb] at h53
        rw [Bool.and_eq_true] at h53b
        have hcut := cut_yes h53b.1
        rw [hsv, bytes_eq h53b.2] at hcut
        have hno : rdI g (d + 1) (T.drop k) = none := by
          rw [hrd, hrs, htd, rdS_bad hcut]; rfl
        refine cj_region ?_
        refine oj_step (y_build st122 rfl rfl) rfl rfl rfl ?_
        refine oj_step (y_iface rfl (by kernel_rfl)) rfl rfl rfl ?_
        refine oj_panic rfl ?_
        repeat (first | with_reducible refine ej_then_pan ?_ | with_reducible refine ej_blk_pan ?_ | with_reducible refine ej_noGoto_pan ?_ | with_reducible refine ej_np_pan ?_)
        first | exact ej_pan rfl (fun w' hp => .inr ⟨k + 1, ⟨hno, by omega⟩, rfl, hp.givT [ownB b (cellsB 81 [.map (some m), rstV bs T.length (k + 1)])]⟩) | exact ej_pan rfl (fun w' hp => .inr ⟨k1, ⟨hno, by omega⟩, rfl, hp.givT [ownB b (cellsB 81 [.map (some m), rstV bs T.length k1])]⟩) | exact ej_pan rfl (fun w' hp => .inr ⟨k3 + 1, ⟨hno, by omega⟩, rfl, hp.givT [ownB b (cellsB 81 [.map (some m), rstV bs T.length (k3 + 1)])]⟩)
      · have h53b := h53
        try simp only [sxb] at h53
        refine cj_skip (ej_th ?_)
        refine cj_cuti (X := Nat × ByteArray) [(36, _), (0, _), (1, _), (4, _), (5, _), (34, _), (35, _)] ⟨rfl, rfl, rfl, rfl, rfl, rfl, rfl, trivial⟩ (fun ⟨k2, s⟩ => (k1 ≤ k2 ∧ k2 ≤ T.length) ∧ s.size ≤ 65536 ∧ rdS (c.traits.drop i) (T.drop k1) = (rdS (c.traits.drop (i + 1)) (T.drop k2)).map fun o => (s :: o.1, o.2)) (fun ⟨k2, s⟩ => [(10, .string s)]) (fun ⟨k2, s⟩ => [ow 9 1 enStr A1 c1 ss, ownB b9 (cellsB 39 (encTr t)), ownB b (cellsB 81 [.map (some m), rstV bs T.length k2]), ownB b6 (cellsB 37 (encCl c)), ownB b5 (cellsB 26 [.string s13, .slice A1 ss.length c1, .slice none 0 0]), ownB b4 (cellsB 26 [.string ⟨#[]⟩, .slice none 0 0, .slice none 0 0])]) (fun ⟨k2, s⟩ => [sl fpC 3 encTr c.At c.traits, sl fpT 1 enStr (some ⟨bs, 0, none⟩) T, mp ekS evC m g, clsF fpC g]) ?_ ?_
        · refine cj_seq ?_
          refine cj_regionG (gj_step (y_move rfl) rfl rfl rfl (gj_nil ?_))
          refine ej_th ?_
          refine cj_cond rfl (fun h56 => ?_) (fun h56 => ?_)
          · have h56b := h56
            try simp only [sxb] at h56
            have hpre : (by_ (t.name ++ tEq)).isPrefixOf (by_ ((T.drop k1).headD ⟨#[]⟩)) = true := by simpa using h56
            have hcut := cut_yes hpre
            rw [hsv] at hcut
            have hk1l : k1 < T.length := Nat.lt_of_not_le fun h9 => tok_nn t.name sv (by rw [← cut_some hcut, head_nil h9]; rfl)
            have hsvn : sv ≠ ⟨#[]⟩ := fun h9 => by
              rw [Bool.and_eq_false_iff] at h53b
              rcases h53b with h8 | h8
              · rw [hpre] at h8; cases h8
              · rw [h9] at h8; exact absurd h8 (by decide)
            have hsvs := cut_size hcut
            refine cj_region ?_
            refine oj_step (y_move rfl) rfl rfl rfl ?_
            refine oj_callLP (X := ByteArray) (Y := Unit) (fun z => .string z) (fun _ => chW) (fun z => T[k1]? = some z) (fun _ => T.length ≤ k1) [ownB b (cellsB 81 [.map (some m), rstV bs T.length k1])] (fun _ => [ownB b (cellsB 81 [.map (some m), rstV bs T.length (k1 + 1)])]) (fun _ => [ownB b (cellsB 81 [.map (some m), rstV bs T.length k1])]) Tryz.call67 rfl rfl (fun w1 hp => by
              obtain ⟨q1, q2, q3⟩ := hp.ownL (Os := [ownB b (cellsB 81 [.map (some m), rstV bs T.length k1])]) inferInstance
              exact k_take b m bs k1 T fpT w1 (by omega) q1 q2 (fun f hf => q3 f (by rw [List.mem_singleton.1 hf]; simp))) rfl (fun _ hT58 => ?_) (fun s58 hs58 => ?_)
            · dsimp only [List.cons_append, List.nil_append]
              exact absurd hT58 (by omega)
            dsimp only [List.cons_append, List.nil_append]
            refine oj_nil ?_
            refine ej_takes [ow 9 1 enStr A1 c1 ss, ownB b9 (cellsB 39 (encTr t)), ownB b (cellsB 81 [.map (some m), rstV bs T.length (k1 + 1)]), ownB b6 (cellsB 37 (encCl c)), ownB b5 (cellsB 26 [.string s13, .slice A1 ss.length c1, .slice none 0 0]), ownB b4 (cellsB 26 [.string ⟨#[]⟩, .slice none 0 0, .slice none 0 0])] ?_
            exact ej_ct (k1 + 1, sv) ⟨by first | omega | (dsimp only; omega), Nat.le_trans hsvs hHs, by rw [htd, rdS_step hcut hsvn]⟩ ⟨rfl, rfl, rfl, rfl, rfl, rfl, rfl, rfl, trivial⟩
          · have h56b := h56
            try simp only [sxb] at h56
            have hpre : (by_ (t.name ++ tEq)).isPrefixOf (by_ ((T.drop k1).headD ⟨#[]⟩)) = false := by simpa using h56
            have hcut := cut_not hpre
            refine cj_regionG (gj_step (y_assign rfl) rfl rfl rfl (gj_nil ?_))
            refine ej_takes [ow 9 1 enStr A1 c1 ss, ownB b9 (cellsB 39 (encTr t)), ownB b (cellsB 81 [.map (some m), rstV bs T.length k1]), ownB b6 (cellsB 37 (encCl c)), ownB b5 (cellsB 26 [.string s13, .slice A1 ss.length c1, .slice none 0 0]), ownB b4 (cellsB 26 [.string ⟨#[]⟩, .slice none 0 0, .slice none 0 0])] ?_
            exact ej_ct (k1, ⟨#[]⟩) ⟨by first | omega | (dsimp only; omega), by decide, by rw [htd, rdS_skip hcut]⟩ ⟨rfl, rfl, rfl, rfl, rfl, rfl, rfl, rfl, trivial⟩
        · rintro ⟨k2, s⟩ ⟨hk2, hss2, hrs3⟩
          dsimp only [List.cons_append, List.nil_append]
          refine cj_region ?_
          refine oj_step (y_fa fa26_1 rfl) rfl rfl rfl ?_
          refine oj_step (y_load1 Tryz.isAgg23 rfl rfl) rfl rfl rfl ?_
          refine oj_step (y_move rfl) rfl rfl rfl ?_
          refine oj_buildSlice (cs := [.string s]) [.string ⟨#[]⟩] Tryz.underlying23 Tryz.sizeOf9 Tryz.zeroValue9 rfl rfl (by kernel_rfl) (by kernel_rfl) rfl (fun b62 => ?_)
          refine oj_append  el23 (fun _ => rfl) enStr_one rfl rfl rfl (reads_lit [s] (fun _ => rfl) rfl) (by unfold maxLen; simp only [List.length_cons, List.length_nil]; omega) (by simp only [List.length_cons, List.length_nil]; omega) rfl (fun A63 c63 => ?_)
          refine oj_step (y_fa fa26_1 rfl) rfl rfl rfl ?_
          refine oj_store rfl rfl rfl rfl Tryz.sizeOf23 rfl ?_
          refine oj_nil ?_
          refine ej_blk (ej_th ?_)
          refine cj_regionG (gj_step (y_add rfl rfl (by omega)) rfl rfl rfl (gj_step (y_move rfl) rfl rfl rfl (gj_nil ?_)))
          refine ej_takes [ow 9 1 enStr A63 c63 (ss ++ [s]), ownB b (cellsB 81 [.map (some m), rstV bs T.length k2]), ownB b6 (cellsB 37 (encCl c)), ownB b5 (cellsB 26 [.string s13, .slice A63 (ss ++ [s]).length c63, .slice none 0 0]), ownB b4 (cellsB 26 [.string ⟨#[]⟩, .slice none 0 0, .slice none 0 0])] ?_
          exact ej_nx (i + 1, k2, A63, c63, ss ++ [s]) (by first | omega | (simp only; omega)) ⟨by first | omega | (simp only; omega), by first | omega | (simp only; omega), by simp only [List.length_append, List.length_cons, List.length_nil]; omega, fun u hu => by
            rcases List.mem_append.1 hu with hu | hu
            · exact hss u hu
            · rw [List.mem_singleton.1 hu]; exact hss2, by rw [hrs, hrs3, aftS_one]⟩ ⟨rfl, rfl, rfl, rfl, rfl, rfl, rfl, trivial⟩
    · have h37b := h37
      try simp only [sxb] at h37
      have hie : i = c.traits.length := by omega
      have hrs2 : rdS c.traits (T.drop (k + 1)) = some (ss, T.drop k1) := by rw [hrs, hie, List.drop_length, rdS]; simp [aftS]
      rw [hrs2] at hrd
      refine cj_exit (ej_then_exit (ej_then_exit (ej_blk_hit (ej_th (cj_seq (cj_seq ?_))))))
      refine cj_regionG ?_
      refine gj_step (y_move rfl) rfl rfl rfl (?_)
      refine gj_step (y_call Tryz.call69 rfl (fun w hp => k_next b m bs k1 T w hp.own1 hp.rd (by omega))) rfl rfl rfl ?_
      refine gj_step (y_neqS rfl rfl) rfl rfl rfl (?_)
      refine gj_nil ?_
      refine ej_th ?_
      refine cj_cond rfl (fun h68 => ?_) (fun h68 => ?_)
      · have h68b := h68
        try simp only [sxb] at h68
        have hok : rdI g (d + 1) (T.drop k) = some ((ItemV.mk s13 A1 c1 ss none 0 []).pl, T.drop k1) := by
          rw [hrd, pl_eq, aftI_stop (fun h8 => by rw [h8] at h68; exact absurd h68 (by decide))]; rfl
        refine cj_seq (cj_region ?_)
        refine oj_step (y_loadN Tryz.isAgg26 Tryz.sizeOf26 rfl) rfl rfl rfl ?_
        refine oj_store rfl rfl rfl rfl Tryz.sizeOf26 rfl ?_
        refine oj_nil ?_
        refine ej_th (cj_ret (ej_then_ret ?_))
        exact ej_retC1 rfl Tryz.results33 rfl (y_loadN Tryz.isAgg26 Tryz.sizeOf26 rfl) (fun w' hp => .inl ⟨(ItemV.mk s13 A1 c1 ss none 0 [], k1, w.heap.size, w'.heap.size), ⟨hok, by dsimp only; omega, by dsimp only; omega, Nat.le_refl _⟩, rfl, giv_add (hp.givT [ownB b (cellsB 81 [.map (some m), rstV bs T.length k1])]) (itF (fun i => w.heap.size ≤ i ∧ i < w'.heap.size) [ItemV.mk s13 A1 c1 ss none 0 []]) (fun q hq => by
          rw [List.mem_singleton.1 hq]
          exact .mk (hp.resQ (ob := cellsB 81 [.map (some m), rstV bs T.length k1]) (A := A1) (e := 9) (c := c1) (enc := enStr) (xs := ss) inferInstance (fun _ => rfl) (by unfold maxLen; omega)) ⟨Nat.zero_le _, fun hn => absurd rfl hn⟩ (by show s13.size ≤ _; have h9 := hsz _ (List.mem_of_getElem? hs13); omega) (fun u hu => by have h9 := hss u hu; omega) (fun p hp2 => by cases hp2)) (fun i hi => hi) (fun f hf i hi => by
          rw [List.mem_singleton.1 hf] at hi
          have hi : i = b := hi
          subst hi
          exact (hO _ (List.mem_cons_self ..)).2 _ rfl)⟩)
      · have h68b := h68
        try simp only [sxb] at h68
        have hH : ((T.drop k1).headD ⟨#[]⟩) = tOpen := bytes_eq h68
        have hk1l : k1 < T.length := Nat.lt_of_not_le fun h9 => by
          rw [head_nil h9] at hH
          exact absurd hH (by decide)
        have hT1 := List.getElem?_eq_getElem hk1l
        have hrd3 : rdI g (d + 1) (T.drop k) = (rdP (rdI g d) (T.drop (k1 + 1)).length (T.drop (k1 + 1))).map (fun o => (IT.mk s13 ss o.1, o.2)) := by
          rw [hrd, (head_drop hT1).2.2, aftI_open (by rw [← (head_drop hT1).1]; exact hH)]
        refine cj_skip (ej_th (cj_seq (cj_region ?_)))
        refine oj_step (y_move rfl) rfl rfl rfl ?_
        refine oj_callLP (X := ByteArray) (Y := Unit) (fun z => .string z) (fun _ => chW) (fun z => T[k1]? = some z) (fun _ => T.length ≤ k1) [ownB b (cellsB 81 [.map (some m), rstV bs T.length k1])] (fun _ => [ownB b (cellsB 81 [.map (some m), rstV bs T.length (k1 + 1)])]) (fun _ => [ownB b (cellsB 81 [.map (some m), rstV bs T.length k1])]) Tryz.call67 rfl rfl (fun w1 hp => by
          obtain ⟨q1, q2, q3⟩ := hp.ownL (Os := [ownB b (cellsB 81 [.map (some m), rstV bs T.length k1])]) inferInstance
          exact k_take b m bs k1 T fpT w1 (by omega) q1 q2 (fun f hf => q3 f (by rw [List.mem_singleton.1 hf]; simp))) rfl (fun _ hT71 => ?_) (fun s71 hs71 => ?_)
        · dsimp only [List.cons_append, List.nil_append]
          exact absurd hT71 (by omega)
        dsimp only [List.cons_append, List.nil_append]
        refine oj_nil ?_
        refine ej_th (cj_block ?_)
        refine cj_ownNil 26 3 encIt ?_
        refine cj_addS (itF (fun _ => False) []) (fun w hp => ⟨fun z hz => (by cases hz), fun i hi => hi.elim⟩) ?_
        refine cj_takes [ow 26 3 encIt none 0 ([] : List ItemV), ownB b (cellsB 81 [.map (some m), rstV bs T.length (k1 + 1)]), ow 9 1 enStr A1 c1 ss, ownB b6 (cellsB 37 (encCl c)), ownB b5 (cellsB 26 [.string s13, .slice A1 ss.length c1, .slice none 0 0]), ownB b4 (cellsB 26 [.string ⟨#[]⟩, .slice none 0 0, .slice none 0 0])] ?_
        refine cj_lpi (X := Nat × Nat × Option Addr × Nat × List ItemV × (Nat → Prop)) [(0, _), (1, _), (4, _), (5, _)] (fun ⟨n, k2, A2, c2, ps, fp⟩ => (k1 + 1 ≤ k2 ∧ k2 ≤ T.length) ∧ T.length - k2 ≤ n ∧ ps.length ≤ k2 ∧ (∀ i, fp i → w.heap.size ≤ i) ∧ rdP (rdI g d) (T.drop (k1 + 1)).length (T.drop (k1 + 1)) = aftP (ps.map ItemV.pl) (rdP (rdI g d) n (T.drop k2))) (fun ⟨n, k2, A2, c2, ps, fp⟩ => []) (fun ⟨n, k2, A2, c2, ps, fp⟩ => [ow 26 3 encIt A2 c2 ps, ownB b (cellsB 81 [.map (some m), rstV bs T.length k2]), ow 9 1 enStr A1 c1 ss, ownB b6 (cellsB 37 (encCl c)), ownB b5 (cellsB 26 [.string s13, .slice A1 ss.length c1, .slice A2 ps.length c2]), ownB b4 (cellsB 26 [.string ⟨#[]⟩, .slice none 0 0, .slice none 0 0])]) (fun ⟨n, k2, A2, c2, ps, fp⟩ => [itF fp ps, sl fpC 3 encTr c.At c.traits, sl fpT 1 enStr (some ⟨bs, 0, none⟩) T, mp ekS evC m g, clsF fpC g]) (fun ⟨n, k2, A2, c2, ps, fp⟩ => T.length - k2) ((T.drop (k1 + 1)).length, k1 + 1, none, 0, [], fun _ => False) (⟨⟨Nat.le_refl _, by omega⟩, by rw [List.length_drop]; omega, Nat.zero_le _, fun i h => h.elim, by simp [aftP]⟩) ⟨rfl, rfl, rfl, rfl, trivial⟩ ?_
        rintro ⟨n, k2, A2, c2, ps, fp⟩ ⟨hk2, hn, hpl, hfn, hrp⟩
        dsimp only [List.cons_append, List.nil_append]
        refine cj_block (cj_seq ?_)
        refine cj_plan 10 (by kernel_rfl) (by kernel_rfl) ?_
        refine pl_y 0 rfl (y_fa fa26_2 rfl) rfl rfl rfl rfl (by kernel_rfl) ?_
        refine pl_y 1 rfl (y_load1 Tryz.isAgg24 rfl rfl) rfl rfl rfl rfl (by kernel_rfl) ?_
        refine pl_y 2 rfl (y_move rfl) rfl rfl rfl rfl (by kernel_rfl) ?_
        refine pl_y 3 rfl (y_move rfl) rfl rfl rfl rfl (by kernel_rfl) ?_
        refine pl_y 4 rfl (y_add rfl rfl (by omega)) rfl rfl rfl rfl (by kernel_rfl) ?_
        refine pl_w1 5 (by kernel_rfl) rfl rfl (pl_fire rfl rfl rfl (by kernel_rfl) ?_)
        refine oj_callLP (X := ItemV × Nat × Nat × Nat) (Y := Nat) (fun z => evI z.1) (fun _ => chW) (fun z => rdI g d (T.drop k2) = some (z.1.pl, T.drop z.2.1) ∧ k2 < z.2.1 ∧ z.2.1 ≤ T.length ∧ w.heap.size ≤ z.2.2.1) (fun y => rdI g d (T.drop k2) = none ∧ y ≤ T.length) [ownB b (cellsB 81 [.map (some m), rstV bs T.length k2])] (fun z => [ownB b (cellsB 81 [.map (some m), rstV bs T.length z.2.1]), itF (fun i => z.2.2.1 ≤ i ∧ i < z.2.2.2) [z.1]]) (fun y => [ownB b (cellsB 81 [.map (some m), rstV bs T.length y])]) Tryz.call33 rfl rfl (fun w1 hp => by
          obtain ⟨q1, q2, q3⟩ := hp.ownL (Os := [ownB b (cellsB 81 [.map (some m), rstV bs T.length k2])]) inferInstance
          have hsz1 := hp.size
          have h9 := ih d rfl k2 (by omega) w1 q1 q2 (fun f hf => q3 f (by simp only [List.mem_cons, List.mem_nil_iff, or_false] at hf; rcases hf with rfl | rfl | rfl <;> simp))
          rw [show (4 : Int) - (d : Int) = 4 - ((d + 1 : Nat) : Int) + 1 by omega] at h9
          refine h9.mono fun e w' hx => ?_
          rcases hx with ⟨z, ⟨a1, a2, a3, a4⟩, hx⟩ | hx
          · exact .inl ⟨z, ⟨a1, a2, a3, Nat.le_trans hsz1 a4⟩, hx⟩
          · exact .inr hx) rfl (fun y2 hy2 => ?_) (fun z hz => ?_)
        · dsimp only [List.cons_append, List.nil_append]
          have hno : rdI g (d + 1) (T.drop k) = none := by
            rw [hrd3, hrp]
            have h8 : rdP (rdI g d) n (T.drop k2) = none := by
              cases n with
              | zero => rfl
              | succ n => rw [rdP, hy2.1]
            rw [h8]; rfl
          repeat (first | with_reducible refine ej_then_pan ?_ | with_reducible refine ej_blk_pan ?_ | with_reducible refine ej_noGoto_pan ?_ | with_reducible refine ej_np_pan ?_)
          exact ej_pan rfl (fun w' hp => .inr ⟨y2, ⟨hno, by omega⟩, rfl, hp.givT [ownB b (cellsB 81 [.map (some m), rstV bs T.length y2])]⟩)
        obtain ⟨y, k3, n1, n2⟩ := z
        dsimp only at hz
        obtain ⟨hz1, hz2, hz3, hz4⟩ := hz
        dsimp only [List.cons_append, List.nil_append]
        refine oj_frzT (itF (fun i => n1 ≤ i ∧ i < n2) [y]) (itF (fun i => fp i ∨ (n1 ≤ i ∧ i < n2)) (ps ++ [y])) (fun w1 hp => ?_) (fun i hi => ?_) ?_
        · intro q hq
          have h1 := hp.shared (itF fp ps) (by simp)
          have h2 := (hp.own (itF (fun i => n1 ≤ i ∧ i < n2) [y]) (by simp)).1
          rcases List.mem_append.1 hq with hq | hq
          · exact (h1.1 q hq).fp (fun _ h => .inl h)
          · exact (h2 q hq).fp (fun _ h => .inr h)
        · rcases hi with hi | hi
          · exact .inr ⟨itF fp ps, by simp, hi⟩
          · exact .inl hi
        refine oj_nil ?_
        refine ej_pl (lt_w (by kernel_rfl) (lt_y (y_move rfl) rfl (lt_w (by kernel_rfl) (lt_y (y_load1 Tryz.isAgg24 rfl rfl) rfl (lt_y (y_fa fa26_2 rfl) rfl (lt_nil)))))) ?_
        refine pl_w1 6 (by kernel_rfl) rfl rfl (pl_fire rfl rfl rfl (by kernel_rfl) ?_)
        refine oj_buildSlice (cs := [.string y.cls, .slice y.As y.says.length y.cs, .slice y.Ap y.parts.length y.cp]) [.string ⟨#[]⟩, .slice none 0 0, .slice none 0 0] Tryz.underlying24 Tryz.sizeOf26 Tryz.zeroValue26 rfl rfl (by kernel_rfl) (by kernel_rfl) rfl (fun b78 => ?_)
        refine oj_nil ?_
        refine ej_pl (lt_y (y_add rfl rfl (by omega)) rfl (lt_y (y_move rfl) rfl (lt_y (y_move rfl) rfl (lt_y (y_load1 Tryz.isAgg24 rfl rfl) rfl (lt_y (y_fa fa26_2 rfl) rfl (lt_nil)))))) ?_
        refine pl_w1 7 (by kernel_rfl) rfl rfl (pl_fire rfl rfl rfl (by kernel_rfl) ?_)
        refine oj_append  el24 (fun _ => rfl) encIt_one rfl rfl rfl (reads_lit [y] (fun _ => rfl) rfl) (by unfold maxLen; simp only [List.length_cons, List.length_nil]; omega) (by simp only [List.length_cons, List.length_nil]; omega) rfl (fun A79 c79 => ?_)
        refine oj_nil ?_
        refine ej_pl (lt_y (y_add rfl rfl (by omega)) rfl (lt_y (y_move rfl) rfl (lt_y (y_move rfl) rfl (lt_w (by kernel_rfl) (lt_y (y_fa fa26_2 rfl) rfl (lt_nil)))))) ?_
        refine pl_y 8 rfl (y_fa fa26_2 rfl) rfl rfl rfl rfl (by kernel_rfl) ?_
        refine pl_w1 9 (by kernel_rfl) rfl rfl (pl_fire rfl rfl rfl (by kernel_rfl) ?_)
        refine oj_store rfl rfl rfl rfl Tryz.sizeOf24 rfl ?_
        refine oj_nil ?_
        refine ej_pl (lt_w (by kernel_rfl) (lt_w (by kernel_rfl) (lt_w (by kernel_rfl) (lt_w (by kernel_rfl) (lt_w (by kernel_rfl) (lt_w (by kernel_rfl) (lt_nil))))))) ?_
        refine pl_end (by kernel_rfl) ?_
        refine ej_th (cj_seq (cj_region ?_))
        refine oj_step (y_move rfl) rfl rfl rfl ?_
        refine oj_callLP (X := ByteArray) (Y := Unit) (fun z => .string z) (fun _ => chW) (fun z => T[k3]? = some z) (fun _ => T.length ≤ k3) [ownB b (cellsB 81 [.map (some m), rstV bs T.length k3])] (fun _ => [ownB b (cellsB 81 [.map (some m), rstV bs T.length (k3 + 1)])]) (fun _ => [ownB b (cellsB 81 [.map (some m), rstV bs T.length k3])]) Tryz.call67 rfl rfl (fun w1 hp => by
          obtain ⟨q1, q2, q3⟩ := hp.ownL (Os := [ownB b (cellsB 81 [.map (some m), rstV bs T.length k3])]) inferInstance
          exact k_take b m bs k3 T fpT w1 (by omega) q1 q2 (fun f hf => q3 f (by rw [List.mem_singleton.1 hf]; simp))) rfl (fun _ hT82 => ?_) (fun s82 hs82 => ?_)
        · dsimp only [List.cons_append, List.nil_append]
          have hno : rdI g (d + 1) (T.drop k) = none := by
            rw [hrd3, hrp]
            have h8 : rdP (rdI g d) n (T.drop k2) = none := by
              cases n with
              | zero => rfl
              | succ n => rw [rdP, hz1, head_nil hT82]
            rw [h8]; rfl
          repeat (first | with_reducible refine ej_then_pan ?_ | with_reducible refine ej_blk_pan ?_ | with_reducible refine ej_noGoto_pan ?_ | with_reducible refine ej_np_pan ?_)
          exact ej_pan rfl (fun w' hp => .inr ⟨k3, ⟨hno, by omega⟩, rfl, hp.givT [ownB b (cellsB 81 [.map (some m), rstV bs T.length k3])]⟩)
        dsimp only [List.cons_append, List.nil_append]
        refine oj_nil ?_
        refine ej_th (cj_block (cj_seq ?_))
        refine cj_regionG (gj_step (y_eqlS rfl rfl) rfl rfl rfl (gj_step (y_assign rfl) rfl rfl rfl (gj_nil ?_)))
        refine ej_th ?_
        refine cj_cond rfl (fun h85 => ?_) (fun h85 => ?_)
        · have h85b := h85
          try simp only [sxb] at h85
          have he82 : s82 = tClose := bytes_eq (by simpa using h85)
          have hk3 := (List.getElem?_eq_some_iff.1 hs82).1
          obtain ⟨n, rfl⟩ : ∃ n1, n = n1 + 1 := ⟨n - 1, by omega⟩
          have hok : rdI g (d + 1) (T.drop k) = some ((ItemV.mk s13 A1 c1 ss A79 c79 (ps ++ [y])).pl, T.drop (k3 + 1)) := by
            rw [hrd3, hrp, rdP, hz1, (head_drop hs82).2.2]
            dsimp only
            rw [if_pos he82, show (ItemV.mk s13 A1 c1 ss A79 c79 (ps ++ [y])).pl = .mk s13 ss ((ps ++ [y]).map ItemV.pl) from pl_eq _]
            simp [aftP]
          refine cj_seq (cj_region ?_)
          refine oj_step (y_loadN Tryz.isAgg26 Tryz.sizeOf26 rfl) rfl rfl rfl ?_
          refine oj_store rfl rfl rfl rfl Tryz.sizeOf26 rfl ?_
          refine oj_nil ?_
          refine ej_th (cj_ret (ej_blk_ret (ej_blk_ret (ej_then_ret (ej_blk_ret ?_)))))
          exact ej_retC1 rfl Tryz.results33 rfl (y_loadN Tryz.isAgg26 Tryz.sizeOf26 rfl) (fun w' hp => .inl ⟨(ItemV.mk s13 A1 c1 ss A79 c79 (ps ++ [y]), (k3 + 1), w.heap.size, w'.heap.size), ⟨hok, by dsimp only; omega, by dsimp only; omega, Nat.le_refl _⟩, rfl, giv_add (hp.givT [ownB b (cellsB 81 [.map (some m), rstV bs T.length (k3 + 1)])]) (itF (fun i => w.heap.size ≤ i ∧ i < w'.heap.size) [ItemV.mk s13 A1 c1 ss A79 c79 (ps ++ [y])]) (fun q hq => by
            rw [List.mem_singleton.1 hq]
            exact .mk (hp.resQ (ob := cellsB 81 [.map (some m), rstV bs T.length (k3 + 1)]) (A := A1) (e := 9) (c := c1) (enc := enStr) (xs := ss) inferInstance (fun _ => rfl) (by unfold maxLen; omega)) (hp.resQ (ob := cellsB 81 [.map (some m), rstV bs T.length (k3 + 1)]) (A := A79) (e := 26) (c := c79) (enc := encIt) (xs := ps ++ [y]) inferInstance (fun _ => rfl) (by unfold maxLen; simp only [List.length_append, List.length_cons, List.length_nil]; omega)) (by show s13.size ≤ _; have h9 := hsz _ (List.mem_of_getElem? hs13); omega) (fun u hu => by have h9 := hss u hu; omega) (fun p hp2 => by
              have h7 := hp.shared (itF (fun i => fp i ∨ (n1 ≤ i ∧ i < n2)) (ps ++ [y])) (by simp)
              exact (h7.1 p hp2).fp (fun i hi => ⟨by rcases hi with hi | hi; exact hfn i hi; omega, h7.2.1 i hi⟩))) (fun i hi => hi) (fun f hf i hi => by
            rw [List.mem_singleton.1 hf] at hi
            have hi : i = b := hi
            subst hi
            exact (hO _ (List.mem_cons_self ..)).2 _ rfl)⟩)
        · have h85b := h85
          try simp only [sxb] at h85
          have hn85 : ¬ s82 = tClose := fun h9 => by rw [h9] at h85; exact absurd h85 (by decide)
          have hk3 := (List.getElem?_eq_some_iff.1 hs82).1
          obtain ⟨n, rfl⟩ : ∃ n1, n = n1 + 1 := ⟨n - 1, by omega⟩
          refine cj_seq ?_
          refine cj_regionG (gj_step (y_eqlS rfl rfl) rfl rfl rfl (gj_step (y_assign rfl) rfl rfl rfl (gj_nil ?_)))
          refine ej_th ?_
          refine cj_cond rfl (fun h88 => ?_) (fun h88 => ?_)
          · have h88b := h88
            try simp only [sxb] at h88
            have he82 : s82 = tSemi := bytes_eq (by simpa using h88)
            refine cj_skip (ej_blk (ej_blk ?_))
            refine ej_takes [ow 26 3 encIt A79 c79 (ps ++ [y]), ownB b (cellsB 81 [.map (some m), rstV bs T.length (k3 + 1)]), ow 9 1 enStr A1 c1 ss, ownB b6 (cellsB 37 (encCl c)), ownB b5 (cellsB 26 [.string s13, .slice A1 ss.length c1, .slice A79 (ps ++ [y]).length c79]), ownB b4 (cellsB 26 [.string ⟨#[]⟩, .slice none 0 0, .slice none 0 0])] ?_
            exact ej_nx (n, k3 + 1, A79, c79, ps ++ [y], (fun i => fp i ∨ (n1 ≤ i ∧ i < n2))) (by first | omega | (simp only; omega)) ⟨by first | omega | (simp only; omega), by first | omega | (simp only; omega), by simp only [List.length_append, List.length_cons, List.length_nil]; omega, fun i hi => by rcases hi with hi | hi; exact hfn i hi; omega, by
              rw [hrp, rdP, hz1, (head_drop hs82).2.2]
              dsimp only
              rw [if_neg hn85, if_pos he82, aftP_one]; simp⟩ ⟨rfl, rfl, rfl, rfl, trivial⟩
          · have h88b := h88
            try simp only [sxb] at h88
            have hn88 : ¬ s82 = tSemi := fun h9 => by rw [h9] at h88; exact absurd h88 (by decide)
            have hno : rdI g (d + 1) (T.drop k) = none := by
              rw [hrd3, hrp, rdP, hz1, (head_drop hs82).2.2]
              dsimp only
              rw [if_neg hn85, if_neg hn88]; rfl
            refine cj_region ?_
            refine oj_step (y_build st122 rfl rfl) rfl rfl rfl ?_
            refine oj_step (y_iface rfl (by kernel_rfl)) rfl rfl rfl ?_
            refine oj_panic rfl ?_
            repeat (first | with_reducible refine ej_then_pan ?_ | with_reducible refine ej_blk_pan ?_ | with_reducible refine ej_noGoto_pan ?_ | with_reducible refine ej_np_pan ?_)
            first | exact ej_pan rfl (fun w' hp => .inr ⟨k + 1, ⟨hno, by omega⟩, rfl, hp.givT [ownB b (cellsB 81 [.map (some m), rstV bs T.length (k + 1)])]⟩) | exact ej_pan rfl (fun w' hp => .inr ⟨k1, ⟨hno, by omega⟩, rfl, hp.givT [ownB b (cellsB 81 [.map (some m), rstV bs T.length k1])]⟩) | exact ej_pan rfl (fun w' hp => .inr ⟨k3 + 1, ⟨hno, by omega⟩, rfl, hp.givT [ownB b (cellsB 81 [.map (some m), rstV bs T.length (k3 + 1)])]⟩)

end Go.Proofs.YtlfbghkcfmcnlaaGreatDoor
namespace Go.Proofs.YtlfbghkcfmcnlaaGreatDoor
open Go.Sx Go.RowKit
set_option maxRecDepth 20000
theorem k_item (b m bs : Nat) (T : List ByteArray) (fpT : Nat → Prop) (g : List (ByteArray × ClassV)) (fpC : Nat → Prop) (hgn : ∀ p ∈ g, p.2.traits.length ≤ 8 ∧ ∀ t ∈ p.2.traits, t.name.size ≤ 16) (hsz : ∀ u ∈ T, u.size ≤ 65536) (hN : T.length ≤ 70000) : ∀ (d k : Nat) (w : World), k ≤ T.length → d ≤ 4 → (∀ f ∈ [ownB b (cellsB 81 [.map (some m), rstV bs T.length k])], f.P w ∧ ∀ b, f.fp b → b < w.heap.size) → ([ownB b (cellsB 81 [.map (some m), rstV bs T.length k])].Pairwise (fun f g => ∀ b, f.fp b → ¬ g.fp b)) → (∀ f ∈ [sl fpT 1 enStr (some ⟨bs, 0, none⟩) T, mp ekS evC m g, clsF fpC g], f.P w ∧ ∀ i, f.fp i → i < w.heap.size ∧ ∀ o ∈ [ownB b (cellsB 81 [.map (some m), rstV bs T.length k])], ¬ o.fp i) → Calls Tryz.prog 33 #[.pointer (some ⟨b, 0, none⟩), .int .i64 (4 - (d : Int))] w (fun e w' => (∃ z : ItemV × Nat × Nat × Nat, (rdI g d (T.drop k) = some (z.1.pl, T.drop z.2.1) ∧ k < z.2.1 ∧ z.2.1 ≤ T.length ∧ w.heap.size ≤ z.2.2.1) ∧ e = .returned (evI z.1) ∧ Giv [ownB b (cellsB 81 [.map (some m), rstV bs T.length k])] w w' [ownB b (cellsB 81 [.map (some m), rstV bs T.length z.2.1]), itF (fun i => z.2.2.1 ≤ i ∧ i < z.2.2.2) [z.1]]) ∨ (∃ y : Nat, (rdI g d (T.drop k) = none ∧ y ≤ T.length) ∧ e = .panicked chW ∧ Giv [ownB b (cellsB 81 [.map (some m), rstV bs T.length k])] w w' [ownB b (cellsB 81 [.map (some m), rstV bs T.length y])])) := by
  intro d
  induction d with
  | zero => intro k w hk hd hO hap hS; exact k_item1 b m bs T fpT g fpC 0 k w hgn hsz hN hk hd hO hap hS (fun d1 h => by omega)
  | succ d ih => intro k w hk hd hO hap hS; exact k_item1 b m bs T fpT g fpC (d + 1) k w hgn hsz hN hk hd hO hap hS (fun d1 h k1 hk1 w1 h1 h2 h3 => by
      obtain rfl : d1 = d := by omega
      exact ih k1 w1 hk1 (by omega) h1 h2 h3)
def RdOk (g : List (ByteArray × ClassV)) (s : ByteArray) (x : ItemV) (ok : Bool) : Prop := (ok = true ∧ rdI g 3 (splitT s) = some (x.pl, [])) ∨ (ok = false ∧ ∀ y : IT, rdI g 3 (splitT s) ≠ some (y, []))
theorem good_zero (fp : Nat → Prop) (w : World) : GoodF fp w (ItemV.mk ⟨#[]⟩ none 0 [] none 0 []) := .mk ⟨Nat.zero_le _, fun h => absurd rfl h⟩ ⟨Nat.zero_le _, fun h => absurd rfl h⟩ (by decide) (fun u h => by cases h) (fun p h => by cases h)
theorem rst0 (s : ByteArray) {z : Nat} : rstV z (splitT s).length 0 = .slice (some ⟨z, 0, none⟩) (splitT s).length (splitT s).length := by
  obtain ⟨_, a, R, h2, _⟩ := split_ok _ s rfl
  have h5 : splitT s = a :: R := h2
  rw [h5]; rfl

theorem k_read1A (b6 b7 : Nat) (w : World) : CallsD Tryz.prog 65 #[.pointer (some ⟨b6, 0, none⟩), .pointer (some ⟨b7, 0, none⟩)] .returning w (fun e u' w' => (∃ v, e = .returned v) ∧ u' = .returning ∧ Grow w w') := by
  refine callsD_rec .nilIface (fun i => i < w.heap.size) [] [] Tryz.func65 rfl (by rw [Tryz.ntmps65]; simp) (by rw [Tryz.ntmps65]; decide) (by rw [Tryz.ntmps65]; decide) rfl rfl rfl rfl rfl rfl (fun c₀ cs h => .inr ⟨rec_ret c₀ cs h, rfl, rfl⟩) ⟨rfl, rfl, rfl, Nat.le_refl _, fun _ hi => ⟨hi, rfl⟩, fun _ h => (by cases h), .nil, fun _ h => (by cases h)⟩ ?_
  refine cj_seq ?_
  refine cj_regionG (gj_step (y_move rfl) rfl rfl rfl (gj_step (y_neqNilI false ⟨_, Tryz.underlying20⟩ rfl (.inl ⟨rfl, rfl⟩)) rfl rfl rfl (gj_nil ?_)))
  refine ej_th ?_
  refine cj_condF rfl (rfl) ?_
  refine cj_skip ?_
  exact ej_end0 rfl Tryz.results65 (fun w' hp => ⟨⟨_, rfl⟩, rfl, hp.below⟩)

theorem k_read1B (b6 b7 : Nat) (w : World) (hO : ∀ f ∈ [ownB b6 (cellsB 26 [.string ⟨#[]⟩, .slice none 0 0, .slice none 0 0]), ownB b7 (cellsB 4 [.bool false])], f.P w ∧ ∀ b, f.fp b → b < w.heap.size) (hap : [ownB b6 (cellsB 26 [.string ⟨#[]⟩, .slice none 0 0, .slice none 0 0]), ownB b7 (cellsB 4 [.bool false])].Pairwise (fun f g => ∀ b, f.fp b → ¬ g.fp b)) : CallsD Tryz.prog 65 #[.pointer (some ⟨b6, 0, none⟩), .pointer (some ⟨b7, 0, none⟩)] (.panicking chW) w (fun e u' w' => (∃ v, e = .returned v) ∧ u' = .panicking [{ v := .iface 122 (.agg #[]), recovered := true }] ∧ Giv [ownB b6 (cellsB 26 [.string ⟨#[]⟩, .slice none 0 0, .slice none 0 0]), ownB b7 (cellsB 4 [.bool false])] w w' [ownB b6 (cellsB 26 [.string ⟨#[]⟩, .slice none 0 0, .slice none 0 0]), ownB b7 (cellsB 4 [.bool false])]) := by
  refine callsD_rec (.iface 122 (.agg #[])) (FrO w [ownB b6 (cellsB 26 [.string ⟨#[]⟩, .slice none 0 0, .slice none 0 0]), ownB b7 (cellsB 4 [.bool false])]) [ownB b6 (cellsB 26 [.string ⟨#[]⟩, .slice none 0 0, .slice none 0 0]), ownB b7 (cellsB 4 [.bool false])] [] Tryz.func65 rfl (by rw [Tryz.ntmps65]; simp) (by rw [Tryz.ntmps65]; decide) (by rw [Tryz.ntmps65]; decide) rfl rfl rfl rfl rfl rfl (fun c₀ cs h => .inl (rec_pan _ c₀ cs h)) ⟨rfl, rfl, rfl, Nat.le_refl _, fun _ hi => ⟨hi.1, rfl⟩, fun g hg => ⟨(hO g hg).1, fun b hb => ⟨(hO g hg).2 b hb, fun h => h.2 g hg hb⟩⟩, hap, fun _ h => (by cases h)⟩ ?_
  refine cj_seq ?_
  refine cj_regionG (gj_step (y_move rfl) rfl rfl rfl (gj_step (y_neqNilI true ⟨_, Tryz.underlying20⟩ rfl (.inr ⟨⟨_, _, rfl⟩, rfl⟩)) rfl rfl rfl (gj_nil ?_)))
  refine ej_th ?_
  refine cj_condT rfl (rfl) ?_
  refine cj_seq (cj_seq (cj_region ?_))
  refine oj_step (y_move rfl) rfl rfl rfl ?_
  refine oj_step (y_typeAssertT Tryz.underlying122 (fun _ h => by cases h) rfl) rfl rfl rfl ?_
  refine oj_step (y_move rfl) rfl rfl rfl ?_
  refine oj_step (y_extract rfl rfl) rfl rfl rfl ?_
  refine oj_step (y_extract rfl rfl) rfl rfl rfl ?_
  refine oj_alloc Tryz.zeroValue122 rfl rfl (fun b3 => ?_)
  refine oj_store rfl rfl rfl rfl Tryz.sizeOf122 rfl ?_
  refine oj_step (y_assign rfl) rfl rfl rfl ?_
  refine oj_nil ?_
  refine ej_th (cj_seq ?_)
  refine cj_regionG (gj_step (y_move rfl) rfl rfl rfl (gj_step (y_not rfl) rfl rfl rfl (gj_nil ?_)))
  refine ej_th ?_
  refine cj_condF rfl (rfl) ?_
  refine cj_skip (ej_th (cj_region ?_))
  refine oj_step (y_build st26 rfl rfl) rfl rfl rfl ?_
  refine oj_store rfl rfl rfl rfl Tryz.sizeOf26 rfl ?_
  refine oj_store rfl rfl rfl rfl Tryz.sizeOf4 rfl ?_
  refine oj_nil ?_
  exact ej_end0 rfl Tryz.results65 (fun w' hp => ⟨⟨_, rfl⟩, rfl, hp.givT [ownB b6 (cellsB 26 [.string ⟨#[]⟩, .slice none 0 0, .slice none 0 0]), ownB b7 (cellsB 4 [.bool false])]⟩)

set_option maxHeartbeats 1600000 in
theorem k_read (b m : Nat) (mx : Int) (s : ByteArray) (g : List (ByteArray × ClassV)) (fpC : Nat → Prop) (w : World) (hgn : ∀ p ∈ g, p.2.traits.length ≤ 8 ∧ ∀ t ∈ p.2.traits, t.name.size ≤ 16) (hs : s.size ≤ 65536) (hO : ∀ f ∈ [ownB b (cellsB 81 [.map (some m), .slice none 0 0])], f.P w ∧ ∀ b, f.fp b → b < w.heap.size) (hap : [ownB b (cellsB 81 [.map (some m), .slice none 0 0])].Pairwise (fun f g => ∀ b, f.fp b → ¬ g.fp b)) (hS : ∀ f ∈ [gl 0 [.int .i64 mx], mp ekS evC m g, clsF fpC g], f.P w ∧ ∀ i, f.fp i → i < w.heap.size ∧ ∀ o ∈ [ownB b (cellsB 81 [.map (some m), .slice none 0 0])], ¬ o.fp i) : Calls Tryz.prog 32 #[.string s, .func (.func 33) #[.pointer (some ⟨b, 0, none⟩)] #[], .pointer (some ⟨b, 1, none⟩)] w (fun e w' => ∃ z : ItemV × Bool × Nat × Nat, RdOk g s z.1 z.2.1 ∧ e = .returned (.tuple #[evI z.1, .bool z.2.1]) ∧ Giv [ownB b (cellsB 81 [.map (some m), .slice none 0 0])] w w' [itF (fun i => z.2.2.1 ≤ i ∧ i < z.2.2.2) [z.1]]) := by
  refine enterDO (args := [.string s, .func (.func 33) #[.pointer (some ⟨b, 0, none⟩)] #[], .pointer (some ⟨b, 1, none⟩)]) [ownB b (cellsB 81 [.map (some m), .slice none 0 0])] [gl 0 [.int .i64 mx], mp ekS evC m g, clsF fpC g] Tryz.func32 rfl (by rw [Tryz.ntmps32]; simp) hO hap hS ?_
  refine cj_seq (cj_region ?_)
  refine oj_alloc Tryz.zeroValue26 rfl rfl (fun b6 => ?_)
  refine oj_alloc Tryz.zeroValue4 rfl rfl (fun b7 => ?_)
  refine oj_nil ?_
  refine ej_th (cj_seq (cj_region ?_))
  refine oj_step (y_makeFunc rfl rfl) rfl rfl rfl ?_
  refine oj_defer rfl rfl rfl ?_
  refine oj_nil ?_
  refine ej_th (cj_seq (cj_region ?_))
  refine oj_step (y_move rfl) rfl rfl rfl ?_
  refine oj_step (y_move rfl) rfl rfl rfl ?_
  refine oj_call (X := Nat) (fun z => rstV z (splitT s).length 0) (fun _ => []) (fun z => [litS z 1 enStr (splitT s)]) Tryz.call66 rfl (fun w1 hp => (split_sh s mx w1 hs ((hp.shared (gl 0 [.int .i64 mx]) (by simp)).1 0 _ rfl)).mono fun e w2 ⟨z, he, h⟩ => ⟨z, he.trans (by rw [rst0 s]), h⟩) rfl (fun bs => ?_)
  dsimp only [List.cons_append, List.nil_append]
  refine oj_step (y_nil rfl) rfl rfl rfl ?_
  refine oj_store rfl rfl rfl rfl Tryz.sizeOf23 rfl ?_
  refine oj_nil ?_
  refine ej_th (cj_seq (cj_region ?_))
  refine oj_step (y_move rfl) rfl rfl rfl ?_
  refine oj_callLP (X := ItemV × Nat × Nat × Nat) (Y := Nat) (fun z => evI z.1) (fun _ => chW) (fun z => rdI g 3 (splitT s) = some (z.1.pl, (splitT s).drop z.2.1) ∧ z.2.1 ≤ (splitT s).length) (fun y => rdI g 3 (splitT s) = none) [ownB b (cellsB 81 [.map (some m), rstV bs (splitT s).length 0])] (fun z => [ownB b (cellsB 81 [.map (some m), rstV bs (splitT s).length z.2.1]), itF (fun i => z.2.2.1 ≤ i ∧ i < z.2.2.2) [z.1]]) (fun y => [ownB b (cellsB 81 [.map (some m), rstV bs (splitT s).length y])]) Tryz.call33 rfl rfl (fun w1 hp => by
    obtain ⟨q1, q2, q3⟩ := hp.ownL (Os := [ownB b (cellsB 81 [.map (some m), rstV bs (splitT s).length 0])]) inferInstance
    have h9 := k_item b m bs (splitT s) (fun i => i = bs) g fpC hgn (fun u hu => Nat.le_trans ((split_sz s).2 u hu) hs) (by have := (split_sz s).1; omega) 3 0 w1 (Nat.zero_le _) (by omega) q1 q2 (fun f hf => q3 f (by simp only [List.mem_cons, List.mem_nil_iff, or_false] at hf; rcases hf with rfl | rfl | rfl; exact .head _; simp; simp))
    rw [List.drop_zero] at h9
    refine h9.mono fun e w' hx => ?_
    rcases hx with ⟨z, ⟨a1, a2, a3, a4⟩, hx⟩ | ⟨y, ⟨a1, a2⟩, hx⟩
    · exact .inl ⟨z, ⟨a1, a3⟩, hx⟩
    · exact .inr ⟨y, a1, hx⟩) rfl (fun y2 hy2 => ?_) (fun z hz => ?_)
  · dsimp only [List.cons_append, List.nil_append]
    repeat (first | with_reducible refine ej_then_pan ?_ | with_reducible refine ej_blk_pan ?_ | with_reducible refine ej_noGoto_pan ?_ | with_reducible refine ej_np_pan ?_)
    refine ej_panL (ch' := [{ v := .iface 122 (.agg #[]), recovered := true }]) [ownB b6 (cellsB 26 [.string ⟨#[]⟩, .slice none 0 0, .slice none 0 0]), ownB b7 (cellsB 4 [.bool false])] [ownB b6 (cellsB 26 [.string ⟨#[]⟩, .slice none 0 0, .slice none 0 0]), ownB b7 (cellsB 4 [.bool false])] rfl Tryz.call65 rfl (fun w1 hp => ?_) (fun a w1 hr hp => by
      simp only [List.cons_append, List.nil_append] at hp
      exact ⟨_, res_CC Tryz.results32 rfl (y_loadN Tryz.isAgg26 Tryz.sizeOf26 rfl) rfl (y_load1 Tryz.isAgg4 rfl rfl) hr hp, (ItemV.mk ⟨#[]⟩ none 0 [] none 0 [], false, 0, 0), .inr ⟨rfl, fun y hy => by rw [hy2] at hy; cases hy⟩, rfl, giv_add (hp.givT []) _ (fun q hq => by rw [List.mem_singleton.1 hq]; exact good_zero _ _) (fun i hi => absurd hi.2 (Nat.not_lt_zero _)) (fun _ h => by cases h)⟩)
    obtain ⟨q1, q2, _⟩ := hp.ownL (Os := [ownB b6 (cellsB 26 [.string ⟨#[]⟩, .slice none 0 0, .slice none 0 0]), ownB b7 (cellsB 4 [.bool false])]) inferInstance
    exact k_read1B b6 b7 w1 q1 q2
  obtain ⟨y, k3, n1, n2⟩ := z
  dsimp only at hz
  obtain ⟨hz1, hz3⟩ := hz
  dsimp only [List.cons_append, List.nil_append]
  refine oj_store rfl rfl rfl rfl Tryz.sizeOf26 rfl ?_
  refine oj_nil ?_
  refine ej_th (cj_seq ?_)
  refine cj_plan 8 (by kernel_rfl) (by kernel_rfl) ?_
  refine pl_y 0 rfl (y_loadN Tryz.isAgg26 Tryz.sizeOf26 rfl) rfl rfl rfl rfl (by kernel_rfl) ?_
  refine pl_y 1 rfl (y_move rfl) rfl rfl rfl rfl (by kernel_rfl) ?_
  refine pl_y 2 rfl (y_nil rfl) rfl rfl rfl rfl (by kernel_rfl) ?_
  refine pl_y 3 rfl (y_load1 Tryz.isAgg23 rfl rfl) rfl rfl rfl rfl (by kernel_rfl) ?_
  refine pl_y 4 rfl (y_lenA Tryz.underlying23 rfl) rfl rfl rfl rfl (by kernel_rfl) ?_
  refine pl_y 5 rfl (y_eql rfl rfl) rfl rfl rfl rfl (by kernel_rfl) ?_
  refine pl_w1 6 (by kernel_rfl) rfl rfl (pl_fire rfl rfl rfl (by kernel_rfl) ?_)
  refine oj_store rfl rfl rfl rfl Tryz.sizeOf26 rfl ?_
  refine oj_nil ?_
  refine ej_pl (lt_y (y_eql rfl rfl) rfl (lt_y (y_lenA Tryz.underlying23 rfl) rfl (lt_y (y_load1 Tryz.isAgg23 rfl rfl) rfl (lt_y (y_nil rfl) rfl (lt_y (y_move rfl) rfl (lt_w (by kernel_rfl) (lt_nil))))))) ?_
  refine pl_w1 7 (by kernel_rfl) rfl rfl (pl_fire rfl rfl rfl (by kernel_rfl) ?_)
  refine oj_store rfl rfl rfl rfl Tryz.sizeOf4 rfl ?_
  refine oj_nil ?_
  refine ej_pl (lt_w (by kernel_rfl) (lt_w (by kernel_rfl) (lt_w (by kernel_rfl) (lt_w (by kernel_rfl) (lt_w (by kernel_rfl) (lt_w (by kernel_rfl) (lt_nil))))))) ?_
  refine pl_end (by kernel_rfl) ?_
  refine ej_th (cj_ret ?_)
  have hok : RdOk g s y ((((splitT s).length - k3 : Nat) : Int) == 0) := by
    by_cases h : (splitT s).length - k3 = 0
    · exact .inl ⟨by rw [h]; rfl, by rw [hz1, List.drop_of_length_le (by omega)]⟩
    · refine .inr ⟨by rw [beq_eq_false_iff_ne]; omega, fun y2 hy2 => ?_⟩
      rw [hz1] at hy2
      injection hy2 with hy2
      injection hy2 with hy2 hy3
      have h9 := congrArg List.length hy3
      rw [List.length_drop] at h9
      exact h h9
  exact ej_retD rfl Tryz.call65 (fun w1 hp => k_read1A b6 b7 w1) (fun a w1 hr hp => ⟨_, res_CC Tryz.results32 rfl (y_loadN Tryz.isAgg26 Tryz.sizeOf26 rfl) rfl (y_load1 Tryz.isAgg4 rfl rfl) hr hp, (y, ((((splitT s).length - k3 : Nat) : Int) == 0), n1, n2), hok, rfl, hp.givT [itF (fun i => n1 ≤ i ∧ i < n2) [y]]⟩)

end Go.Proofs.YtlfbghkcfmcnlaaGreatDoor
namespace Go.Proofs.YtlfbghkcfmcnlaaGreatDoor
open Go.Sx Go.RowKit
set_option maxRecDepth 20000
theorem gram_tr {l : List ClassV} (h : gramOk l = true) : ∀ p ∈ gramM l, p.2.traits.length ≤ 8 ∧ ∀ t ∈ p.2.traits, t.name.size ≤ 16 := by
  intro p hp
  have hok := gram_cls h p.2 (gramM_mem hp)
  exact ⟨hok.few, fun t ht => isW_size (hok.tn t ht)⟩

set_option maxHeartbeats 1600000 in
theorem k_Parse (l : List ClassV) (A : Option Addr) (c : Nat) (s : ByteArray) (mx : Int) (w : World) (hl : Rd w 4 encCl A l) (hgc : ∀ c ∈ l, GoodC w c) (hss : s.size ≤ 9223372036854775807) (hm0 : Gl w 0 [.int .i64 mx]) : Calls Tryz.prog 8 #[.slice A l.length c, .string s] w (fun e w' => ∃ z : ItemV × Int × Nat × Nat, PrsR l s z.1 z.2.1 ∧ e = .returned (.tuple #[evI z.1, .int .i64 z.2.1]) ∧ Giv [] w w' [itF (fun i => z.2.2.1 ≤ i ∧ i < z.2.2.2) [z.1]]) := by
  refine enterO (args := [.slice A l.length c, .string s]) [] [sl (fun b => b < w.heap.size) 4 encCl A l, clsF (fun b => b < w.heap.size) (gramM l), gl 0 [.int .i64 mx]] Tryz.func8 rfl (by rw [Tryz.ntmps8]; simp) (fun _ h => by cases h) .nil (fun f hf => ?_) ?_
  · simp only [List.mem_cons, List.mem_nil_iff, or_false] at hf
    rcases hf with rfl | rfl | rfl
    · exact ⟨hl, fun i hi => ⟨hi, fun o ho => by cases ho⟩⟩
    · exact ⟨fun p hp => (hgc p.2 (gramM_mem hp)).rt, fun i hi => ⟨hi, fun o ho => by cases ho⟩⟩
    · exact ⟨hm0.1, fun i hi => ⟨by have hi : i = 0 := hi; subst hi; exact hm0.2, fun o ho => by cases ho⟩⟩
  refine cj_seq (cj_region ?_)
  refine oj_alloc Tryz.zeroValue26 rfl rfl (fun b4 => ?_)
  refine oj_step (y_assign rfl) rfl rfl rfl ?_
  refine oj_nil ?_
  refine ej_th (cj_seq (cj_region ?_))
  refine oj_step (y_move rfl) rfl rfl rfl ?_
  refine oj_call (X := Nat) (fun m => .tuple #[.map (bif gramOk l then some m else none), .int .i64 (gramE l)]) (fun _ => []) (fun m => bif gramOk l then [mp ekS evC m (gramM l)] else []) Tryz.call31 rfl (fun w1 hp => (k_grammarOf l A c w1 (hp.rd (fp := fun b => b < w.heap.size)) (fun c hc => (hgc c hc).mono hp.belowN)).mono fun e w2 ⟨m, he, hg, hm⟩ => ⟨m, he, hg, by simp, by simp, fun f hf => by
    cases hok : gramOk l with
    | false => rw [hok] at hf; cases hf
    | true =>
      rw [hok] at hf
      rw [List.mem_singleton.1 hf]
      have h3 := hm hok
      exact ⟨h3.1, fun i hi => by have : i = m := hi; subst this; exact ⟨h3.2.1, h3.2.2, by simp⟩⟩⟩) rfl (fun m15 => ?_)
  dsimp only [List.cons_append, List.nil_append]
  refine oj_step (y_move rfl) rfl rfl rfl ?_
  refine oj_step (y_extract rfl rfl) rfl rfl rfl ?_
  refine oj_step (y_extract rfl rfl) rfl rfl rfl ?_
  refine oj_step (y_assign rfl) rfl rfl rfl ?_
  refine oj_step (y_assign rfl) rfl rfl rfl ?_
  refine oj_nil ?_
  refine ej_th (cj_seq (cj_seq ?_))
  refine cj_regionG (gj_step (y_move rfl) rfl rfl rfl (gj_step (y_neq rfl rfl) rfl rfl rfl (gj_nil ?_)))
  refine ej_th ?_
  refine cj_cond rfl (fun h19 => ?_) (fun h19 => ?_)
  · have h19b := h19
    try simp only [sxb] at h19
    have hok : gramOk l = false := by
      cases hg : gramOk l with
      | false => rfl
      | true => rw [gramE, hg] at h19; simp at h19
    refine cj_seq (cj_region ?_)
    refine oj_step (y_build st26 rfl rfl) rfl rfl rfl ?_
    refine oj_step (y_move rfl) rfl rfl rfl ?_
    refine oj_store rfl rfl rfl rfl Tryz.sizeOf26 rfl ?_
    refine oj_step (y_assign rfl) rfl rfl rfl ?_
    refine oj_nil ?_
    refine ej_th (cj_ret (ej_then_ret ?_))
    have hE : gramE l = 10 := by rw [gramE, hok]; rfl
    rw [hE]
    exact ej_retC2 rfl Tryz.results8 rfl (y_loadN Tryz.isAgg26 Tryz.sizeOf26 rfl) rfl (fun w' hp => ⟨(zIV, 10, 0, 0), .gram hok, rfl, giv_add (hp.givT []) _ (fun q hq => by rw [List.mem_singleton.1 hq]; exact good_zero _ _) (fun i hi => absurd hi.2 (Nat.not_lt_zero _)) (fun _ h => by cases h)⟩)
  · have h19b := h19
    try simp only [sxb] at h19
    have hok : gramOk l = true := by
      cases hg : gramOk l with
      | true => rfl
      | false => rw [gramE, hg] at h19; simp at h19
    rw [hok]
    simp only [cond_true, List.cons_append, List.nil_append]
    refine cj_skip (ej_th (cj_seq (cj_seq ?_)))
    refine cj_regionG (gj_step (y_move rfl) rfl rfl rfl (gj_step (y_lenS Tryz.underlying9 rfl) rfl rfl rfl (gj_step (y_gtr rfl rfl) rfl rfl rfl (gj_nil ?_))))
    refine ej_th ?_
    refine cj_cond rfl (fun h24 => ?_) (fun h24 => ?_)
    · have h24b := h24
      try simp only [sxb] at h24
      have hlim : 65536 < s.size := by omega
      refine cj_seq (cj_region ?_)
      refine oj_step (y_build st26 rfl rfl) rfl rfl rfl ?_
      refine oj_store rfl rfl rfl rfl Tryz.sizeOf26 rfl ?_
      refine oj_step (y_assign rfl) rfl rfl rfl ?_
      refine oj_nil ?_
      refine ej_th (cj_ret (ej_then_ret ?_))
      exact ej_retC2 rfl Tryz.results8 rfl (y_loadN Tryz.isAgg26 Tryz.sizeOf26 rfl) rfl (fun w' hp => ⟨(zIV, 3, 0, 0), .limit hok hlim, rfl, giv_add (hp.givT []) _ (fun q hq => by rw [List.mem_singleton.1 hq]; exact good_zero _ _) (fun i hi => absurd hi.2 (Nat.not_lt_zero _)) (fun _ h => by cases h)⟩)
    · have h24b := h24
      try simp only [sxb] at h24
      refine cj_skip (ej_th (cj_seq (cj_region ?_)))
      refine oj_step (y_move rfl) rfl rfl rfl ?_
      refine oj_step (y_build (cs := [.map (some m15), .slice none 0 0]) st81 rfl rfl) rfl rfl rfl ?_
      refine oj_box rfl rfl rfl (fun b28 => ?_)
      refine oj_step (y_assign rfl) rfl rfl rfl ?_
      refine oj_nil ?_
      refine ej_th (cj_seq (cj_region ?_))
      refine oj_step (y_move rfl) rfl rfl rfl ?_
      refine oj_step (y_move rfl) rfl rfl rfl ?_
      refine oj_step (y_makeFunc rfl rfl) rfl rfl rfl ?_
      refine oj_step (y_move rfl) rfl rfl rfl ?_
      refine oj_step (y_nil rfl) rfl rfl rfl ?_
      refine oj_step (y_fa fa81_1 rfl) rfl rfl rfl ?_
      refine oj_callL (X := { z : ItemV × Bool × Nat × Nat // RdOk (gramM l) s z.1 z.2.1 }) (fun z => .tuple #[evI z.1.1, .bool z.1.2.1]) [ownB b28 (cellsB 81 [.map (some m15), .slice none 0 0])] (fun z => [itF (fun i => z.1.2.2.1 ≤ i ∧ i < z.1.2.2.2) [z.1.1]]) Tryz.call32 rfl rfl (fun w1 hp => by
        obtain ⟨q1, q2, q3⟩ := hp.ownL (Os := [ownB b28 (cellsB 81 [.map (some m15), .slice none 0 0])]) inferInstance
        refine (k_read b28 m15 mx s (gramM l) (fun b => b < w.heap.size) w1 (gram_tr hok) (by omega) q1 q2 (fun f hf => q3 f (by simp only [List.mem_cons, List.mem_nil_iff, or_false] at hf; rcases hf with rfl | rfl | rfl <;> simp))).mono fun e w2 ⟨z, h1, h2, h3⟩ => ⟨⟨z, h1⟩, h2, h3⟩) rfl (fun z => ?_)
      obtain ⟨⟨y, ok, n1, n2⟩, hz⟩ := z
      dsimp only [List.cons_append, List.nil_append]
      refine oj_step (y_move rfl) rfl rfl rfl ?_
      refine oj_step (y_extract rfl rfl) rfl rfl rfl ?_
      refine oj_step (y_extract rfl rfl) rfl rfl rfl ?_
      refine oj_alloc Tryz.zeroValue26 rfl rfl (fun b9 => ?_)
      refine oj_store rfl rfl rfl rfl Tryz.sizeOf26 rfl ?_
      refine oj_step (y_assign rfl) rfl rfl rfl ?_
      refine oj_nil ?_
      refine ej_th (cj_seq (cj_seq ?_))
      refine cj_regionG (gj_step (y_move rfl) rfl rfl rfl (gj_step (y_not rfl) rfl rfl rfl (gj_nil ?_)))
      refine ej_th ?_
      refine cj_cond rfl (fun h40 => ?_) (fun h40 => ?_)
      · have h40b := h40
        try simp only [sxb] at h40
        refine cj_seq (cj_region ?_)
        refine oj_step (y_build st26 rfl rfl) rfl rfl rfl ?_
        refine oj_store rfl rfl rfl rfl Tryz.sizeOf26 rfl ?_
        refine oj_step (y_assign rfl) rfl rfl rfl ?_
        refine oj_nil ?_
        refine ej_th (cj_ret (ej_then_ret ?_))
        exact ej_retC2 rfl Tryz.results8 rfl (y_loadN Tryz.isAgg26 Tryz.sizeOf26 rfl) rfl (fun w' hp => ⟨(zIV, 5, 0, 0), .form hok (by omega) (fun y2 hy2 => by
          rcases hz with ⟨h1, _⟩ | ⟨_, h2⟩
          · have h1 : ok = true := h1
            rw [h1] at h40; cases h40
          · exact absurd hy2 (h2 _)), rfl, giv_add (hp.givT []) _ (fun q hq => by rw [List.mem_singleton.1 hq]; exact good_zero _ _) (fun i hi => absurd hi.2 (Nat.not_lt_zero _)) (fun _ h => by cases h)⟩)
      · have h40b := h40
        try simp only [sxb] at h40
        have hrd : rdI (gramM l) 3 (splitT s) = some (y.pl, []) := by
          rcases hz with ⟨_, h2⟩ | ⟨h1, _⟩
          · exact h2
          · have h1 : ok = false := h1
            rw [h1] at h40; cases h40
        refine cj_skip (ej_th (cj_seq (cj_seq ?_)))
        refine cj_regionG ?_
        refine gj_step (y_move rfl) rfl rfl rfl (gj_step (y_loadN Tryz.isAgg26 Tryz.sizeOf26 rfl) rfl rfl rfl (?_))
        refine gj_step (y_call Tryz.call34 rfl (fun w hp => k_fitsA (((hp.own (itF (fun i => n1 ≤ i ∧ i < n2) [y]) (by simp)).1 y (List.mem_cons_self ..)).good (fun b hb => ((hp.own (itF (fun i => n1 ≤ i ∧ i < n2) [y]) (by simp)).2 b hb).1)) w m15 (gramM l) 1 24 ⟨rfl, rfl, rfl, Nat.le_refl _, fun _ _ => rfl⟩ hp.mpS.1 (hp.mpS (b := m15) (ek := ekS) (ev := evC) (l := gramM l)).2 (fun p hpm => (hgc p.2 (gramM_mem hpm)).mono hp.belowN) (by omega) (by omega))) rfl rfl rfl ?_
        refine gj_step (y_move rfl) rfl rfl rfl (gj_step (y_extract rfl rfl) rfl rfl rfl (gj_step (y_extract rfl rfl) rfl rfl rfl (gj_step (y_assign rfl) rfl rfl rfl (gj_step (y_assign rfl) rfl rfl rfl (?_)))))
        refine gj_nil ?_
        refine ej_th (cj_seq ?_)
        refine cj_regionG (gj_step (y_move rfl) rfl rfl rfl (gj_step (y_not rfl) rfl rfl rfl (gj_nil ?_)))
        refine ej_th ?_
        refine cj_cond rfl (fun h49 => ?_) (fun h49 => ?_)
        · have h49b := h49
          try simp only [sxb] at h49
          refine cj_seq (cj_region ?_)
          refine oj_step (y_build st26 rfl rfl) rfl rfl rfl ?_
          refine oj_store rfl rfl rfl rfl Tryz.sizeOf26 rfl ?_
          refine oj_step (y_assign rfl) rfl rfl rfl ?_
          refine oj_nil ?_
          refine ej_th (cj_ret (ej_then_ret ?_))
          exact ej_retC2 rfl Tryz.results8 rfl (y_loadN Tryz.isAgg26 Tryz.sizeOf26 rfl) rfl (fun w' hp => ⟨(zIV, 5, 0, 0), .form hok (by omega) (fun y2 hy2 => by
            rcases hz with ⟨h1, h2⟩ | ⟨_, h2⟩
            · rw [h2] at hy2
              injection hy2 with hy2
              injection hy2 with hy2 _
              have h9 : itemOk l y2 = itemOk l y := by unfold itemOk; rw [fitsI_pl _ y2 y 1 24 hy2.symm]
              rw [h9]; unfold itemOk; simpa using h49b
            · exact absurd hy2 (h2 _)), rfl, giv_add (hp.givT []) _ (fun q hq => by rw [List.mem_singleton.1 hq]; exact good_zero _ _) (fun i hi => absurd hi.2 (Nat.not_lt_zero _)) (fun _ h => by cases h)⟩)
        · have h49b := h49
          try simp only [sxb] at h49
          refine cj_skip (ej_th (cj_seq (cj_region ?_)))
          refine oj_step (y_loadN Tryz.isAgg26 Tryz.sizeOf26 rfl) rfl rfl rfl ?_
          refine oj_store rfl rfl rfl rfl Tryz.sizeOf26 rfl ?_
          refine oj_step (y_assign rfl) rfl rfl rfl ?_
          refine oj_nil ?_
          refine ej_th (cj_ret ?_)
          exact ej_retC2 rfl Tryz.results8 rfl (y_loadN Tryz.isAgg26 Tryz.sizeOf26 rfl) rfl (fun w' hp => ⟨(y, 0, n1, n2), .ok hok (by omega) y hrd (by unfold itemOk; simpa using h49b), rfl, hp.givT [itF (fun i => n1 ≤ i ∧ i < n2) [y]]⟩)

end Go.Proofs.YtlfbghkcfmcnlaaGreatDoor
namespace Go.Proofs.YtlfbghkcfmcnlaaGreatDoor
open Go.Sx Go.RowKit
set_option maxRecDepth 20000
theorem k_SameTx1 (l : List ByteArray) (A B : Option Addr) (c d : Nat) (w : World) (hl : Rd w 1 enStr A l) (hm : Rd w 1 enStr B l) : Calls Tryz.prog 75 #[.slice A l.length c, .slice B l.length d] w (fun e w' => e = .returned (.bool true) ∧ Grow w w') := by
  have hlen := hl.len
  refine enter_pure (args := [.slice A l.length c, .slice B l.length d]) [sl (fun b => b < w.heap.size) 1 enStr A l, sl (fun b => b < w.heap.size) 1 enStr B l] Tryz.func75 rfl (by rw [Tryz.ntmps75]; simp) (fun g hg => by simp at hg; rcases hg with rfl | rfl; exact ⟨hl, fun _ h => h⟩; exact ⟨hm, fun _ h => h⟩) ?_
  refine cj_seq ?_
  refine cj_regionG (gj_step (y_assign rfl) rfl rfl rfl (gj_nil ?_))
  refine ej_th (cj_seq ?_)
  refine cj_regionG (gj_step (y_move rfl) rfl rfl rfl (gj_step (y_lenA Tryz.underlying23 rfl) rfl rfl rfl (gj_step (y_move rfl) rfl rfl rfl (gj_step (y_lenA Tryz.underlying23 rfl) rfl rfl rfl (gj_step (y_eql rfl rfl) rfl rfl rfl (gj_step (y_assign rfl) rfl rfl rfl (gj_nil ?_)))))))
  refine ej_th (cj_seq (cj_seq ?_))
  refine cj_regionG (gj_step (y_assign rfl) rfl rfl rfl (gj_nil ?_))
  refine ej_th (cj_block ?_)
  refine cj_lpic (X := Nat × Bool) [(0, _), (1, _), (4, _)] (fun ⟨k, ok⟩ => k ≤ l.length ∧ ok = true) (fun ⟨k, ok⟩ => [(5, .bool ok), (6, .int .i64 k)]) (fun ⟨k, ok⟩ => l.length - k) (0, (l.length : Int) == (l.length : Int)) (⟨Nat.zero_le _, by simp⟩) ⟨rfl, rfl, rfl, rfl, rfl, trivial⟩ ?_
  rintro ⟨k, ok⟩ ⟨hk, hok⟩
  dsimp only [List.cons_append, List.nil_append]
  refine cj_seq (cj_seq ?_)
  refine cj_regionG (gj_step (y_move rfl) rfl rfl rfl (gj_step (y_move rfl) rfl rfl rfl (gj_g 4 13 17 rfl rfl rfl rfl (fun hg13 => gj_yes rfl rfl rfl (y_move rfl) rfl rfl (gj_yes rfl rfl rfl (y_move rfl) rfl rfl (gj_yes rfl rfl rfl (y_lenA Tryz.underlying23 rfl) rfl rfl (gj_yes rfl rfl rfl (y_lss rfl rfl) rfl rfl (gj_nil rfl))))) (gj_step (y_and rfl rfl rfl) rfl rfl rfl (gj_nil ?_)))))
  refine ej_th ?_
  refine cj_cond rfl (fun h18 => ?_) (fun h18 => ?_)
  · have h18b := h18
    try simp only [sxb] at h18
    rw [Bool.and_eq_true, decide_eq_true_eq] at h18b
    obtain ⟨x, hx⟩ : ∃ x, l[k]? = some x := ⟨_, List.getElem?_eq_getElem (by omega)⟩
    refine cj_skip (ej_th (cj_seq (cj_block ?_)))
    refine cj_draw (by kernel_rfl) (by kernel_rfl) (gj_step (y_move rfl) rfl rfl rfl (gj_step (y_move rfl) rfl rfl rfl (gj_step (y_ixR (reads_sl) Tryz.underlying23 Tryz.sizeOf9 rfl rfl (⟨by omega, by omega⟩)) rfl rfl rfl (gj_step (y_ld0 (reads_sl) Tryz.isAgg9 rfl (hx) rfl) rfl rfl rfl (gj_step (y_move rfl) rfl rfl rfl (gj_step (y_move rfl) rfl rfl rfl (gj_step (y_ixR (reads_sl) Tryz.underlying23 Tryz.sizeOf9 rfl rfl (⟨by omega, by omega⟩)) rfl rfl rfl (gj_step (y_ld0 (reads_sl) Tryz.isAgg9 rfl (hx) rfl) rfl rfl rfl (gj_step (y_eqlS rfl rfl) rfl rfl rfl (gj_step (y_assign rfl) rfl rfl rfl (gj_nil ?_)))))))))))
    refine ej_blk (ej_th ?_)
    refine cj_regionG (gj_step (y_move rfl) rfl rfl rfl (gj_step (y_add rfl rfl (by omega)) rfl rfl rfl (gj_step (y_assign rfl) rfl rfl rfl (gj_nil ?_))))
    exact ej_nx (k + 1, x == x) (by simp only; omega) ⟨by first | omega | (simp only; omega), by rw [bytes_beq]; exact decide_eq_true rfl⟩ ⟨rfl, rfl, rfl, rfl, rfl, trivial⟩
  · have h18b := h18
    try simp only [sxb] at h18
    refine cj_exit (ej_then_exit (ej_then_exit (ej_blk_hit (ej_th (cj_seq ?_)))))
    refine cj_regionG (gj_step (y_move rfl) rfl rfl rfl (gj_step (y_assign rfl) rfl rfl rfl (gj_nil ?_)))
    refine ej_th (cj_ret ?_)
    refine ej_ret1 rfl Tryz.results75 rfl (fun w' hp => ⟨?_, hp.below⟩)
    rw [hok]

theorem k_SameTx (l m : List ByteArray) (A B : Option Addr) (c d : Nat) (w : World) (hl : Rd w 1 enStr A l) (hm : Rd w 1 enStr B m) (he : l = m) : Calls Tryz.prog 75 #[.slice A l.length c, .slice B m.length d] w (fun e w' => e = .returned (.bool true) ∧ Grow w w') := by
  subst he; exact k_SameTx1 l A B c d w hl hm

theorem k_same1 (x y : ItemV) (deep : Int) (w : World) (hx : GoodI w x) (hy : GoodI w y) (he : x.pl = y.pl) (hd : (depT x.pl : Int) ≤ deep ∧ deep ≤ 100) (ih : ∀ q ∈ x.parts, ∀ r ∈ y.parts, ∀ (w1 : World), Grow w w1 → q.pl = r.pl → ((depT q.pl : Int) ≤ deep - 1 ∧ deep - 1 ≤ 100) → Calls Tryz.prog 38 #[evI q, evI r, .int .i64 (deep - 1)] w1 (fun e w' => e = .returned (.bool true) ∧ Grow w1 w')) : Calls Tryz.prog 38 #[evI x, evI y, .int .i64 deep] w (fun e w' => e = .returned (.bool true) ∧ Grow w w') := by
  have hl1 := hx.rs.len
  have hl2 := hx.rp.len
  have hce : x.cls = y.cls := by rw [← pl_cls x, ← pl_cls y, he]
  have hse : x.says = y.says := by rw [← pl_says x, ← pl_says y, he]
  have hpe : x.parts.map ItemV.pl = y.parts.map ItemV.pl := by rw [← pl_parts x, ← pl_parts y, he]
  have hple : x.parts.length = y.parts.length := by have := congrArg List.length hpe; simpa using this
  have hd1 := depT_eq x.pl
  refine enter_pure (args := [evI x, evI y, .int .i64 deep]) [] Tryz.func38 rfl (by rw [Tryz.ntmps38]; simp) (by simp) ?_
  refine cj_seq (cj_region ?_)
  refine oj_box rfl rfl rfl (fun b3 => ?_)
  refine oj_box rfl rfl rfl (fun b4 => ?_)
  refine oj_step (y_assign rfl) rfl rfl rfl ?_
  refine oj_nil ?_
  refine ej_th (cj_seq (cj_seq ?_))
  refine cj_rd hx.rs (fun _ h => h) ?_
  refine cj_rd hx.rp (fun _ h => h) ?_
  refine cj_rd hy.rs (fun _ h => h) ?_
  refine cj_rd hy.rp (fun _ h => h) ?_
  refine cj_regionG ?_
  refine gj_step (y_fa0 fa26_0 rfl) rfl rfl rfl (gj_step (y_load1 Tryz.isAgg9 rfl rfl) rfl rfl rfl (gj_step (y_fa0 fa26_0 rfl) rfl rfl rfl (gj_step (y_load1 Tryz.isAgg9 rfl rfl) rfl rfl rfl (gj_step (y_neqS rfl rfl) rfl rfl rfl (gj_step (y_move rfl) rfl rfl rfl (?_))))))
  refine gj_g 6 13 19 rfl rfl rfl rfl (fun hg13 => gj_yes rfl rfl rfl (y_fa fa26_1 rfl) rfl rfl (gj_yes rfl rfl rfl (y_load1 Tryz.isAgg23 rfl rfl) rfl rfl (gj_yes rfl rfl rfl (y_fa fa26_1 rfl) rfl rfl (gj_yes rfl rfl rfl (y_load1 Tryz.isAgg23 rfl rfl) rfl rfl (gj_yes rfl rfl rfl (y_call Tryz.call75 rfl (fun w hp => k_SameTx x.says y.says x.As y.As x.cs y.cs w hp.rd hp.rd hse)) rfl rfl (gj_yes rfl rfl rfl (y_not rfl) rfl rfl (gj_nil rfl))))))) ?_
  refine gj_step (y_or rfl rfl rfl) rfl rfl rfl (gj_step (y_move rfl) rfl rfl rfl (?_))
  refine gj_g 7 21 28 rfl rfl rfl rfl (fun hg21 => gj_yes rfl rfl rfl (y_fa fa26_2 rfl) rfl rfl (gj_yes rfl rfl rfl (y_load1 Tryz.isAgg24 rfl rfl) rfl rfl (gj_yes rfl rfl rfl (y_lenA Tryz.underlying24 rfl) rfl rfl (gj_yes rfl rfl rfl (y_fa fa26_2 rfl) rfl rfl (gj_yes rfl rfl rfl (y_load1 Tryz.isAgg24 rfl rfl) rfl rfl (gj_yes rfl rfl rfl (y_lenA Tryz.underlying24 rfl) rfl rfl (gj_yes rfl rfl rfl (y_neq rfl rfl) rfl rfl (gj_nil rfl)))))))) ?_
  refine gj_step (y_or rfl rfl rfl) rfl rfl rfl (gj_step (y_move rfl) rfl rfl rfl (?_))
  refine gj_g 2 30 32 rfl rfl rfl rfl (fun hg30 => gj_yes rfl rfl rfl (y_move rfl) rfl rfl (gj_yes rfl rfl rfl (y_eql rfl rfl) rfl rfl (gj_nil rfl))) ?_
  refine gj_step (y_or rfl rfl rfl) rfl rfl rfl (?_)
  refine gj_nil ?_
  refine ej_th ?_
  refine cj_cond rfl (fun h33 => ?_) (fun h33 => ?_)
  · exfalso
    rw [hce, hple] at h33
    have h8 : (y.cls == y.cls) = true := by rw [bytes_beq]; exact decide_eq_true rfl
    rw [h8] at h33
    simp at h33
    omega
  · have h33b := h33
    try simp only [sxb] at h33
    refine cj_skip (ej_th (cj_seq (cj_seq ?_)))
    refine cj_regionG (gj_step (y_assign rfl) rfl rfl rfl (gj_nil ?_))
    refine ej_th (cj_block ?_)
    refine cj_lpic (X := Nat) [(2, _), (3, _), (4, _)] (fun k => k ≤ x.parts.length ∧ True) (fun k => [(7, .int .i64 k)]) (fun k => x.parts.length - k) 0 (⟨Nat.zero_le _, trivial⟩) ⟨rfl, rfl, rfl, rfl, trivial⟩ ?_
    rintro k ⟨hk, -⟩
    dsimp only [List.cons_append, List.nil_append]
    refine cj_seq (cj_seq ?_)
    refine cj_regionG (gj_step (y_move rfl) rfl rfl rfl (gj_step (y_fa fa26_2 rfl) rfl rfl rfl (gj_step (y_load1 Tryz.isAgg24 rfl rfl) rfl rfl rfl (gj_step (y_lenA Tryz.underlying24 rfl) rfl rfl rfl (gj_step (y_lss rfl rfl) rfl rfl rfl (gj_nil ?_))))))
    refine ej_th ?_
    refine cj_cond rfl (fun h38 => ?_) (fun h38 => ?_)
    · have h38b := h38
      try simp only [sxb] at h38
      obtain ⟨q, hq⟩ : ∃ q, x.parts[k]? = some q := ⟨_, List.getElem?_eq_getElem (by omega)⟩
      obtain ⟨r, hr⟩ : ∃ r, y.parts[k]? = some r := ⟨_, List.getElem?_eq_getElem (by omega)⟩
      have hqr : q.pl = r.pl := by
        have h9 := congrArg (fun l : List IT => l[k]?) hpe
        simp only [List.getElem?_map, hq, hr, Option.map_some, Option.some.injEq] at h9
        exact h9
      have hdq : (depT q.pl : Int) ≤ deep - 1 ∧ deep - 1 ≤ 100 := by
        have h9 := depL_le x.pl.parts q.pl (by rw [pl_parts]; exact List.mem_map.2 ⟨q, List.mem_of_getElem? hq, rfl⟩)
        omega
      refine cj_skip (ej_th (cj_seq (cj_block (cj_seq ?_))))
      refine cj_draw (by kernel_rfl) (by kernel_rfl) ?_
      refine gj_step (y_fa fa26_2 rfl) rfl rfl rfl (gj_step (y_load1 Tryz.isAgg24 rfl rfl) rfl rfl rfl (gj_step (y_move rfl) rfl rfl rfl (gj_step (y_ixR (reads_sl) Tryz.underlying24 Tryz.sizeOf26 rfl rfl (⟨by omega, by omega⟩)) rfl rfl rfl (gj_step (y_ldW (reads_sl) Tryz.isAgg26 Tryz.sizeOf26 rfl (hq) (fun _ => rfl)) rfl rfl rfl (gj_step (y_fa fa26_2 rfl) rfl rfl rfl (gj_step (y_load1 Tryz.isAgg24 rfl rfl) rfl rfl rfl (gj_step (y_move rfl) rfl rfl rfl (gj_step (y_ixR (reads_sl) Tryz.underlying24 Tryz.sizeOf26 rfl rfl (⟨by omega, by omega⟩)) rfl rfl rfl (gj_step (y_ldW (reads_sl) Tryz.isAgg26 Tryz.sizeOf26 rfl (hr) (fun _ => rfl)) rfl rfl rfl (gj_step (y_move rfl) rfl rfl rfl (gj_step (y_sub rfl rfl (by omega)) rfl rfl rfl (?_))))))))))))
      refine gj_step (y_call Tryz.call38 rfl (fun w hp => ih q (List.mem_of_getElem? hq) r (List.mem_of_getElem? hr) w hp.below hqr hdq)) rfl rfl rfl ?_
      refine gj_step (y_not rfl) rfl rfl rfl (?_)
      refine gj_nil ?_
      refine ej_th ?_
      refine cj_cond rfl (fun h54 => ?_) (fun h54 => ?_)
      · cases h54
      · have h54b := h54
        try simp only [sxb] at h54
        refine cj_skip (ej_blk (ej_th ?_))
        refine cj_regionG (gj_step (y_move rfl) rfl rfl rfl (gj_step (y_add rfl rfl (by omega)) rfl rfl rfl (gj_step (y_assign rfl) rfl rfl rfl (gj_nil ?_))))
        exact ej_nx (k + 1) (by omega) ⟨by omega, trivial⟩ ⟨rfl, rfl, rfl, rfl, trivial⟩
    · have h38b := h38
      try simp only [sxb] at h38
      refine cj_exit (ej_then_exit (ej_then_exit (ej_blk_hit (ej_th (cj_seq ?_)))))
      refine cj_regionG (gj_step (y_assign rfl) rfl rfl rfl (gj_nil ?_))
      refine ej_th (cj_ret ?_)
      refine ej_ret1 rfl Tryz.results38 rfl (fun w' hp => ⟨?_, hp.below⟩)
      rfl

theorem k_same {w0 : World} {x : ItemV} (hx : GoodI w0 x) : ∀ (y : ItemV) (deep : Int) (w : World), Grow w0 w → GoodI w y → x.pl = y.pl → ((depT x.pl : Int) ≤ deep ∧ deep ≤ 100) → Calls Tryz.prog 38 #[evI x, evI y, .int .i64 deep] w (fun e w' => e = .returned (.bool true) ∧ Grow w w') := by
  induction hx with
  | mk hs hp hn hm hr ih =>
    intro y deep w hg hy he hd
    exact k_same1 _ y deep w ((GoodI.mk hs hp hn hm hr).mono hg) hy he hd (fun q hq r hr2 w1 hg1 hqr hd2 => ih q hq r (deep - 1) w1 (grow_trans hg hg1) ((hy.pt r hr2).mono hg1) hqr hd2)

theorem k_SameItems (x y : ItemV) (w : World) (hx : GoodI w x) (hy : GoodI w y) (he : x.pl = y.pl) (hd : depT x.pl ≤ 4) : Calls Tryz.prog 10 #[evI x, evI y] w (fun e w' => e = .returned (.bool true) ∧ Grow w w') := by
  refine enter_pure (args := [evI x, evI y]) [] Tryz.func10 rfl (by rw [Tryz.ntmps10]; simp) (by simp) ?_
  refine cj_seq (cj_region ?_)
  refine oj_box rfl rfl rfl (fun b2 => ?_)
  refine oj_box rfl rfl rfl (fun b3 => ?_)
  refine oj_step (y_assign rfl) rfl rfl rfl ?_
  refine oj_nil ?_
  refine ej_th (cj_seq ?_)
  refine cj_regionG ?_
  refine gj_step (y_loadN Tryz.isAgg26 Tryz.sizeOf26 rfl) rfl rfl rfl (gj_step (y_loadN Tryz.isAgg26 Tryz.sizeOf26 rfl) rfl rfl rfl (?_))
  refine gj_step (y_call Tryz.call38 rfl (fun w hp => k_same hx y 4 w hp.below (hy.mono hp.below) he (by omega))) rfl rfl rfl ?_
  refine gj_step (y_assign rfl) rfl rfl rfl (?_)
  refine gj_nil ?_
  refine ej_th (cj_ret ?_)
  refine ej_ret1 rfl Tryz.results10 rfl (fun w' hp => ⟨?_, hp.below⟩)
  rfl

end Go.Proofs.YtlfbghkcfmcnlaaGreatDoor
namespace Go.Proofs.YtlfbghkcfmcnlaaGreatDoor
open Go.Sx Go.RowKit
set_option maxRecDepth 20000
theorem k_ParseS (l : List ClassV) (A : Option Addr) (c : Nat) (s : ByteArray) (mx : Int) (w : World) (hl : Rd w 4 encCl A l) (hgc : ∀ c ∈ l, GoodC w c) (hss : s.size ≤ 9223372036854775807) (hm0 : Gl w 0 [.int .i64 mx]) : Calls Tryz.prog 8 #[.slice A l.length c, .string s] w (fun e w' => ∃ (y : ItemV) (E : Int), e = .returned (.tuple #[evI y, .int .i64 E]) ∧ Grow w w' ∧ PrsR l s y E ∧ GoodF (fun i => w.heap.size ≤ i ∧ i < w'.heap.size) w' y) := by
  refine (k_Parse l A c s mx w hl hgc hss hm0).mono fun e w' ⟨⟨y, E, n1, n2⟩, h1, h2, h3⟩ => ⟨y, E, h2, ⟨h3.mu.os, h3.mu.tape, h3.mu.output, h3.mu.size, fun b hb => h3.mu.same b hb (fun f hf => by cases hf)⟩, h1, ?_⟩
  have h4 := h3.has _ (List.mem_cons_self ..)
  refine (h4.1 y (List.mem_cons_self ..)).fp (fun i hi => ?_)
  obtain ⟨h5, h6⟩ := h4.2 i hi
  rcases h6 with ⟨f, hf, _⟩ | h6
  · cases hf
  · exact ⟨h6, h5⟩

set_option maxHeartbeats 1000000 in
theorem k_PledgeBack (l : List ClassV) (A : Option Addr) (c : Nat) (x : ItemV) (s : ByteArray) (mx : Int) (w : World) (hl : Rd w 4 encCl A l) (hgc : ∀ c ∈ l, GoodC w c) (hgx : GoodI w x) (hss : s.size ≤ 9223372036854775807) (hm0 : Gl w 0 [.int .i64 mx]) : Calls Tryz.prog 4 #[.slice A l.length c, evI x, .string s] w (fun e w' => e = .returned (.bool true) ∧ Grow w w') := by
  refine enter_pure (args := [.slice A l.length c, evI x, .string s]) [sl (fun b => b < w.heap.size) 4 encCl A l, gl 0 [.int .i64 mx]] Tryz.func4 rfl (by rw [Tryz.ntmps4]; simp) (fun g hg => by
    simp only [List.mem_cons, List.mem_nil_iff, or_false] at hg
    rcases hg with rfl | rfl
    · exact ⟨hl, fun _ h => h⟩
    · exact ⟨hm0.1, fun i hi => by have hi : i = 0 := hi; subst hi; exact hm0.2⟩) ?_
  refine cj_seq (cj_region ?_)
  refine oj_box rfl rfl rfl (fun b4 => ?_)
  refine oj_step (y_assign rfl) rfl rfl rfl ?_
  refine oj_nil ?_
  refine ej_th (cj_seq ?_)
  refine cj_regionG ?_
  refine gj_step (y_move rfl) rfl rfl rfl (gj_step (y_loadN Tryz.isAgg26 Tryz.sizeOf26 rfl) rfl rfl rfl (?_))
  refine gj_step (y_call Tryz.call6 rfl (fun w hp => k_Print l A c x w hp.rd (fun q hq => (hgc q hq).mono hp.below) (hgx.mono hp.below))) rfl rfl rfl ?_
  refine gj_step (y_move rfl) rfl rfl rfl (gj_step (y_extract rfl rfl) rfl rfl rfl (gj_step (y_extract rfl rfl) rfl rfl rfl (gj_step (y_assign rfl) rfl rfl rfl (gj_step (y_assign rfl) rfl rfl rfl (?_)))))
  refine gj_nil ?_
  refine ej_th (cj_seq (cj_seq ?_))
  refine cj_regionG (gj_step (y_move rfl) rfl rfl rfl (gj_step (y_eql rfl rfl) rfl rfl rfl (gj_nil ?_)))
  refine ej_th ?_
  refine cj_cond rfl (fun h19 => ?_) (fun h19 => ?_)
  · have h19b := h19
    try simp only [sxb] at h19
    have hok : askIOk l [x] = true := askIE_ok (by simp [h19])
    refine cj_seq (cj_region ?_)
    refine oj_step (y_move rfl) rfl rfl rfl ?_
    refine oj_step (y_move rfl) rfl rfl rfl ?_
    refine oj_call (X := { z : ItemV × Int × Nat × Nat // PrsR l (PrnT l x) z.1 z.2.1 }) (fun z => .tuple #[evI z.1.1, .int .i64 z.1.2.1]) (fun _ => []) (fun z => [itF (fun i => z.1.2.2.1 ≤ i ∧ i < z.1.2.2.2) [z.1.1]]) Tryz.call8 rfl (fun w1 hp => (k_ParseS l A c (PrnT l x) mx w1 hp.rd (fun q hq => (hgc q hq).mono hp.below) (by have h9 := prn_size hok; omega) hp.glo).mono fun e w2 ⟨z, E2, he, hg, hz, hG⟩ => ⟨⟨(z, E2, w1.heap.size, w2.heap.size), hz⟩, he, hg, by simp, by simp, fun f hf => by
      rw [List.mem_singleton.1 hf]
      exact ⟨fun z hz => by rw [List.mem_singleton.1 hz]; exact hG, fun i hi => ⟨hi.1, hi.2, by simp⟩⟩⟩) rfl ?_
    rintro ⟨⟨y, E, n1, n2⟩, hy⟩
    dsimp only [List.cons_append, List.nil_append] at hy ⊢
    refine oj_step (y_move rfl) rfl rfl rfl ?_
    refine oj_step (y_extract rfl rfl) rfl rfl rfl ?_
    refine oj_step (y_extract rfl rfl) rfl rfl rfl ?_
    refine oj_alloc Tryz.zeroValue26 rfl rfl (fun b9 => ?_)
    refine oj_store rfl rfl rfl rfl Tryz.sizeOf26 rfl ?_
    refine oj_step (y_assign rfl) rfl rfl rfl ?_
    refine oj_nil ?_
    refine ej_th (cj_seq ?_)
    obtain ⟨rfl, hpl⟩ := prs_print hok hy
    refine cj_regionG ?_
    refine gj_step (y_move rfl) rfl rfl rfl (gj_step (y_neq rfl rfl) rfl rfl rfl (gj_step (y_move rfl) rfl rfl rfl (?_)))
    refine gj_g 4 28 32 rfl rfl rfl rfl (fun hg28 => gj_yes rfl rfl rfl (y_loadN Tryz.isAgg26 Tryz.sizeOf26 rfl) rfl rfl (gj_yes rfl rfl rfl (y_loadN Tryz.isAgg26 Tryz.sizeOf26 rfl) rfl rfl (gj_yes rfl rfl rfl (y_call Tryz.call10 rfl (fun w hp => by
      have h1 : GoodI w y := hp_it hp (fun i => n1 ≤ i ∧ i < n2) y
      exact k_SameItems y x w h1 (hgx.mono hp.below) hpl (by rw [hpl]; exact ask_dep hok))) rfl rfl (gj_yes rfl rfl rfl (y_not rfl) rfl rfl (gj_nil rfl))))) ?_
    refine gj_step (y_or rfl rfl rfl) rfl rfl rfl (?_)
    refine gj_nil ?_
    refine ej_th ?_
    refine cj_cond rfl (fun h33 => ?_) (fun h33 => ?_)
    · exact absurd h33 (by simp)
    · have h33b := h33
      try simp only [sxb] at h33
      refine cj_skip (ej_th (cj_seq (cj_region ?_)))
      refine oj_step (y_move rfl) rfl rfl rfl ?_
      refine oj_step (y_move rfl) rfl rfl rfl ?_
      refine oj_call (X := { z : ItemV × Int × Nat × Nat // PrsR l s z.1 z.2.1 }) (fun z => .tuple #[evI z.1.1, .int .i64 z.1.2.1]) (fun _ => []) (fun z => [itF (fun i => z.1.2.2.1 ≤ i ∧ i < z.1.2.2.2) [z.1.1]]) Tryz.call8 rfl (fun w1 hp => (k_ParseS l A c s mx w1 hp.rd (fun q hq => (hgc q hq).mono hp.below) hss hp.glo).mono fun e w2 ⟨z, E2, he, hg, hz, hG⟩ => ⟨⟨(z, E2, w1.heap.size, w2.heap.size), hz⟩, he, hg, by simp, by simp, fun f hf => by
        rw [List.mem_singleton.1 hf]
        exact ⟨fun z hz => by rw [List.mem_singleton.1 hz]; exact hG, fun i hi => ⟨hi.1, hi.2, by simp⟩⟩⟩) rfl ?_
      rintro ⟨⟨z, F, m1, m2⟩, hz⟩
      dsimp only [List.cons_append, List.nil_append] at hz ⊢
      refine oj_step (y_move rfl) rfl rfl rfl ?_
      refine oj_step (y_extract rfl rfl) rfl rfl rfl ?_
      refine oj_step (y_extract rfl rfl) rfl rfl rfl ?_
      refine oj_alloc Tryz.zeroValue26 rfl rfl (fun b11 => ?_)
      refine oj_store rfl rfl rfl rfl Tryz.sizeOf26 rfl ?_
      refine oj_step (y_assign rfl) rfl rfl rfl ?_
      refine oj_nil ?_
      refine ej_th (cj_seq (cj_seq ?_))
      refine cj_regionG (gj_step (y_move rfl) rfl rfl rfl (gj_step (y_neq rfl rfl) rfl rfl rfl (gj_nil ?_)))
      refine ej_th ?_
      refine cj_cond rfl (fun h43 => ?_) (fun h43 => ?_)
      · have h43b := h43
        try simp only [sxb] at h43
        have hz0 := prs_no hz (by simpa using h43)
        subst hz0
        refine cj_seq ?_
        refine cj_regionG ?_
        refine gj_step (y_fa0 fa26_0 rfl) rfl rfl rfl (gj_step (y_load1 Tryz.isAgg9 rfl rfl) rfl rfl rfl (gj_step (y_eqlS rfl rfl) rfl rfl rfl (gj_step (y_move rfl) rfl rfl rfl (?_))))
        refine gj_g 4 47 51 rfl rfl rfl rfl (fun hg47 => gj_yes rfl rfl rfl (y_fa fa26_1 rfl) rfl rfl (gj_yes rfl rfl rfl (y_load1 Tryz.isAgg23 rfl rfl) rfl rfl (gj_yes rfl rfl rfl (y_lenA Tryz.underlying23 rfl) rfl rfl (gj_yes rfl rfl rfl (y_eql rfl rfl) rfl rfl (gj_nil rfl))))) ?_
        refine gj_step (y_and rfl rfl rfl) rfl rfl rfl (gj_step (y_move rfl) rfl rfl rfl (?_))
        refine gj_g 4 53 57 rfl rfl rfl rfl (fun hg53 => gj_yes rfl rfl rfl (y_fa fa26_2 rfl) rfl rfl (gj_yes rfl rfl rfl (y_load1 Tryz.isAgg24 rfl rfl) rfl rfl (gj_yes rfl rfl rfl (y_lenA Tryz.underlying24 rfl) rfl rfl (gj_yes rfl rfl rfl (y_eql rfl rfl) rfl rfl (gj_nil rfl))))) ?_
        refine gj_step (y_and rfl rfl rfl) rfl rfl rfl (gj_step (y_move rfl) rfl rfl rfl (?_))
        refine gj_g 1 59 60 rfl rfl rfl rfl (fun hg59 => gj_yes rfl rfl rfl (y_call Tryz.call11 rfl (fun w hp => k_works w)) rfl rfl (gj_nil rfl)) ?_
        refine gj_step (y_and rfl rfl rfl) rfl rfl rfl (gj_step (y_assign rfl) rfl rfl rfl (?_))
        refine gj_nil ?_
        refine ej_th (cj_ret (ej_then_ret ?_))
        refine ej_ret1 rfl Tryz.results4 rfl (fun w' hp => ⟨?_, hp.below⟩)
        first | rfl | (rw [ha0, hpr, show (s == s) = true by rw [bytes_beq]; exact decide_eq_true rfl]; rfl)
      · have h43b := h43
        try simp only [sxb] at h43
        have hF : F = 0 := by simpa using h43
        subst hF
        obtain ⟨hok2, hpr⟩ := prs_back hz
        have ha0 : askIE l [z] = 0 := askIE_0 hok2
        refine cj_skip (ej_th (cj_seq ?_))
        refine cj_regionG ?_
        refine gj_step (y_move rfl) rfl rfl rfl (gj_step (y_loadN Tryz.isAgg26 Tryz.sizeOf26 rfl) rfl rfl rfl (?_))
        refine gj_step (y_call Tryz.call6 rfl (fun w hp => by
          have h1 : GoodI w z := hp_it hp (fun i => m1 ≤ i ∧ i < m2) z
          exact k_Print l A c z w hp.rd (fun q hq => (hgc q hq).mono hp.below) h1)) rfl rfl rfl ?_
        refine gj_step (y_move rfl) rfl rfl rfl (gj_step (y_extract rfl rfl) rfl rfl rfl (gj_step (y_extract rfl rfl) rfl rfl rfl (gj_step (y_assign rfl) rfl rfl rfl (gj_step (y_assign rfl) rfl rfl rfl (?_)))))
        refine gj_nil ?_
        refine ej_th (cj_seq ?_)
        refine cj_regionG ?_
        refine gj_step (y_move rfl) rfl rfl rfl (gj_step (y_eql rfl rfl) rfl rfl rfl (gj_step (y_move rfl) rfl rfl rfl (?_)))
        refine gj_g 3 70 73 rfl rfl rfl rfl (fun hg70 => gj_yes rfl rfl rfl (y_move rfl) rfl rfl (gj_yes rfl rfl rfl (y_move rfl) rfl rfl (gj_yes rfl rfl rfl (y_eqlS rfl rfl) rfl rfl (gj_nil rfl)))) ?_
        refine gj_step (y_and rfl rfl rfl) rfl rfl rfl (gj_step (y_move rfl) rfl rfl rfl (?_))
        refine gj_g 1 75 76 rfl rfl rfl rfl (fun hg75 => gj_yes rfl rfl rfl (y_call Tryz.call11 rfl (fun w hp => k_works w)) rfl rfl (gj_nil rfl)) ?_
        refine gj_step (y_and rfl rfl rfl) rfl rfl rfl (gj_step (y_assign rfl) rfl rfl rfl (?_))
        refine gj_nil ?_
        refine ej_th (cj_ret ?_)
        refine ej_ret1 rfl Tryz.results4 rfl (fun w' hp => ⟨?_, hp.below⟩)
        first | rfl | (rw [ha0, hpr, show (s == s) = true by rw [bytes_beq]; exact decide_eq_true rfl]; rfl)
  · have h19b := h19
    try simp only [sxb] at h19
    have hno : PrnT l x = ⟨#[]⟩ := by
      have h9 : askIOk l [x] = false := askIE_no (by simp [h19])
      rw [PrnT, h9]; rfl
    refine cj_seq ?_
    refine cj_regionG (gj_step (y_move rfl) rfl rfl rfl (gj_step (y_neqS rfl rfl) rfl rfl rfl (gj_nil ?_)))
    refine ej_th ?_
    refine cj_cond rfl (fun h35 => ?_) (fun h35 => ?_)
    · rw [hno] at h35
      exact absurd h35 (by decide)
    · have h35b := h35
      try simp only [sxb] at h35
      refine cj_skip (ej_th (cj_seq (cj_region ?_)))
      refine oj_step (y_move rfl) rfl rfl rfl ?_
      refine oj_step (y_move rfl) rfl rfl rfl ?_
      refine oj_call (X := { z : ItemV × Int × Nat × Nat // PrsR l s z.1 z.2.1 }) (fun z => .tuple #[evI z.1.1, .int .i64 z.1.2.1]) (fun _ => []) (fun z => [itF (fun i => z.1.2.2.1 ≤ i ∧ i < z.1.2.2.2) [z.1.1]]) Tryz.call8 rfl (fun w1 hp => (k_ParseS l A c s mx w1 hp.rd (fun q hq => (hgc q hq).mono hp.below) hss hp.glo).mono fun e w2 ⟨z, E2, he, hg, hz, hG⟩ => ⟨⟨(z, E2, w1.heap.size, w2.heap.size), hz⟩, he, hg, by simp, by simp, fun f hf => by
        rw [List.mem_singleton.1 hf]
        exact ⟨fun z hz => by rw [List.mem_singleton.1 hz]; exact hG, fun i hi => ⟨hi.1, hi.2, by simp⟩⟩⟩) rfl ?_
      rintro ⟨⟨z, F, m1, m2⟩, hz⟩
      dsimp only [List.cons_append, List.nil_append] at hz ⊢
      refine oj_step (y_move rfl) rfl rfl rfl ?_
      refine oj_step (y_extract rfl rfl) rfl rfl rfl ?_
      refine oj_step (y_extract rfl rfl) rfl rfl rfl ?_
      refine oj_alloc Tryz.zeroValue26 rfl rfl (fun b11 => ?_)
      refine oj_store rfl rfl rfl rfl Tryz.sizeOf26 rfl ?_
      refine oj_step (y_assign rfl) rfl rfl rfl ?_
      refine oj_nil ?_
      refine ej_th (cj_seq (cj_seq ?_))
      refine cj_regionG (gj_step (y_move rfl) rfl rfl rfl (gj_step (y_neq rfl rfl) rfl rfl rfl (gj_nil ?_)))
      refine ej_th ?_
      refine cj_cond rfl (fun h43 => ?_) (fun h43 => ?_)
      · have h43b := h43
        try simp only [sxb] at h43
        have hz0 := prs_no hz (by simpa using h43)
        subst hz0
        refine cj_seq ?_
        refine cj_regionG ?_
        refine gj_step (y_fa0 fa26_0 rfl) rfl rfl rfl (gj_step (y_load1 Tryz.isAgg9 rfl rfl) rfl rfl rfl (gj_step (y_eqlS rfl rfl) rfl rfl rfl (gj_step (y_move rfl) rfl rfl rfl (?_))))
        refine gj_g 4 47 51 rfl rfl rfl rfl (fun hg47 => gj_yes rfl rfl rfl (y_fa fa26_1 rfl) rfl rfl (gj_yes rfl rfl rfl (y_load1 Tryz.isAgg23 rfl rfl) rfl rfl (gj_yes rfl rfl rfl (y_lenA Tryz.underlying23 rfl) rfl rfl (gj_yes rfl rfl rfl (y_eql rfl rfl) rfl rfl (gj_nil rfl))))) ?_
        refine gj_step (y_and rfl rfl rfl) rfl rfl rfl (gj_step (y_move rfl) rfl rfl rfl (?_))
        refine gj_g 4 53 57 rfl rfl rfl rfl (fun hg53 => gj_yes rfl rfl rfl (y_fa fa26_2 rfl) rfl rfl (gj_yes rfl rfl rfl (y_load1 Tryz.isAgg24 rfl rfl) rfl rfl (gj_yes rfl rfl rfl (y_lenA Tryz.underlying24 rfl) rfl rfl (gj_yes rfl rfl rfl (y_eql rfl rfl) rfl rfl (gj_nil rfl))))) ?_
        refine gj_step (y_and rfl rfl rfl) rfl rfl rfl (gj_step (y_move rfl) rfl rfl rfl (?_))
        refine gj_g 1 59 60 rfl rfl rfl rfl (fun hg59 => gj_yes rfl rfl rfl (y_call Tryz.call11 rfl (fun w hp => k_works w)) rfl rfl (gj_nil rfl)) ?_
        refine gj_step (y_and rfl rfl rfl) rfl rfl rfl (gj_step (y_assign rfl) rfl rfl rfl (?_))
        refine gj_nil ?_
        refine ej_th (cj_ret (ej_then_ret ?_))
        refine ej_ret1 rfl Tryz.results4 rfl (fun w' hp => ⟨?_, hp.below⟩)
        first | rfl | (rw [ha0, hpr, show (s == s) = true by rw [bytes_beq]; exact decide_eq_true rfl]; rfl)
      · have h43b := h43
        try simp only [sxb] at h43
        have hF : F = 0 := by simpa using h43
        subst hF
        obtain ⟨hok2, hpr⟩ := prs_back hz
        have ha0 : askIE l [z] = 0 := askIE_0 hok2
        refine cj_skip (ej_th (cj_seq ?_))
        refine cj_regionG ?_
        refine gj_step (y_move rfl) rfl rfl rfl (gj_step (y_loadN Tryz.isAgg26 Tryz.sizeOf26 rfl) rfl rfl rfl (?_))
        refine gj_step (y_call Tryz.call6 rfl (fun w hp => by
          have h1 : GoodI w z := hp_it hp (fun i => m1 ≤ i ∧ i < m2) z
          exact k_Print l A c z w hp.rd (fun q hq => (hgc q hq).mono hp.below) h1)) rfl rfl rfl ?_
        refine gj_step (y_move rfl) rfl rfl rfl (gj_step (y_extract rfl rfl) rfl rfl rfl (gj_step (y_extract rfl rfl) rfl rfl rfl (gj_step (y_assign rfl) rfl rfl rfl (gj_step (y_assign rfl) rfl rfl rfl (?_)))))
        refine gj_nil ?_
        refine ej_th (cj_seq ?_)
        refine cj_regionG ?_
        refine gj_step (y_move rfl) rfl rfl rfl (gj_step (y_eql rfl rfl) rfl rfl rfl (gj_step (y_move rfl) rfl rfl rfl (?_)))
        refine gj_g 3 70 73 rfl rfl rfl rfl (fun hg70 => gj_yes rfl rfl rfl (y_move rfl) rfl rfl (gj_yes rfl rfl rfl (y_move rfl) rfl rfl (gj_yes rfl rfl rfl (y_eqlS rfl rfl) rfl rfl (gj_nil rfl)))) ?_
        refine gj_step (y_and rfl rfl rfl) rfl rfl rfl (gj_step (y_move rfl) rfl rfl rfl (?_))
        refine gj_g 1 75 76 rfl rfl rfl rfl (fun hg75 => gj_yes rfl rfl rfl (y_call Tryz.call11 rfl (fun w hp => k_works w)) rfl rfl (gj_nil rfl)) ?_
        refine gj_step (y_and rfl rfl rfl) rfl rfl rfl (gj_step (y_assign rfl) rfl rfl rfl (?_))
        refine gj_nil ?_
        refine ej_th (cj_ret ?_)
        refine ej_ret1 rfl Tryz.results4 rfl (fun w' hp => ⟨?_, hp.below⟩)
        first | rfl | (rw [ha0, hpr, show (s == s) = true by rw [bytes_beq]; exact decide_eq_true rfl]; rfl)

end Go.Proofs.YtlfbghkcfmcnlaaGreatDoor
