/- Texts of ours, joined: 8 of them. Conditions: none. -/
import Derived.Test.YtlfbghkcfmcnlaaGreatDoorZh
namespace Go.Proofs.YtlfbghkcfmcnlaaGreatDoor
open Go.Sx Go.RowKit
set_option maxRecDepth 20000
set_option maxHeartbeats 6400000 in
theorem k_item1 (b m bs : Nat) (T : List ByteArray) (fpT : Nat → Prop) (g : List (ByteArray × ClassV)) (fpC : Nat → Prop) (d k : Nat) (w : World) (hgn : ∀ p ∈ g, p.2.traits.length ≤ 8 ∧ ∀ t ∈ p.2.traits, t.name.size ≤ 16) (hsz : ∀ u ∈ T, u.size ≤ 65536) (hN : T.length ≤ 70000) (hk : k ≤ T.length) (hd4 : d ≤ 4) (hO : ∀ f ∈ [ownB b (cellsB 81 [.map (some m), rstV bs T.length k])], f.P w ∧ ∀ b, f.fp b → b < w.heap.size) (hap : [ownB b (cellsB 81 [.map (some m), rstV bs T.length k])].Pairwise (fun f g => ∀ b, f.fp b → ¬ g.fp b)) (hS : ∀ f ∈ [sl fpT 1 enStr (some ⟨bs, 0, none⟩) T, mp ekS evC m g, clsF fpC g], f.P w ∧ ∀ i, f.fp i → i < w.heap.size ∧ ∀ o ∈ [ownB b (cellsB 81 [.map (some m), rstV bs T.length k])], ¬ o.fp i) (ih : ∀ d1, d1 + 1 = d → ∀ k1, k1 ≤ T.length → ∀ (w1 : World) (_ : ∀ f ∈ [ownB b (cellsB 81 [.map (some m), rstV bs T.length k1])], f.P w1 ∧ ∀ b, f.fp b → b < w1.heap.size) (_ : [ownB b (cellsB 81 [.map (some m), rstV bs T.length k1])].Pairwise (fun f g => ∀ b, f.fp b → ¬ g.fp b)) (_ : ∀ f ∈ [sl fpT 1 enStr (some ⟨bs, 0, none⟩) T, mp ekS evC m g, clsF fpC g], f.P w1 ∧ ∀ i, f.fp i → i < w1.heap.size ∧ ∀ o ∈ [ownB b (cellsB 81 [.map (some m), rstV bs T.length k1])], ¬ o.fp i), Calls Tryz.prog 33 #[.pointer (some ⟨b, 0, none⟩), .int .i64 (4 - (d1 : Int))] w1 (fun e w' => (∃ z : ItemV × Nat × Nat × Nat, (rdI g d1 (T.drop k1) = some (z.1.pl, T.drop z.2.1) ∧ k1 < z.2.1 ∧ z.2.1 ≤ T.length ∧ w1.heap.size ≤ z.2.2.1) ∧ e = .returned (evI z.1) ∧ Giv [ownB b (cellsB 81 [.map (some m), rstV bs T.length k1])] w1 w' [ownB b (cellsB 81 [.map (some m), rstV bs T.length z.2.1]), itF (fun i => z.2.2.1 ≤ i ∧ i < z.2.2.2) [z.1]]) ∨ (∃ y : Nat, (rdI g d1 (T.drop k1) = none ∧ y ≤ T.length) ∧ e = .panicked chW ∧ Giv [ownB b (cellsB 81 [.map (some m), rstV bs T.length k1])] w1 w' [ownB b (cellsB 81 [.map (some m), rstV bs T.length y])]))) : Calls Tryz.prog 33 #[.pointer (some ⟨b, 0, none⟩), .int .i64 (4 - (d : Int))] w (fun e w' => (∃ z : ItemV × Nat × Nat × Nat, (rdI g d (T.drop k) = some (z.1.pl, T.drop z.2.1) ∧ k < z.2.1 ∧ z.2.1 ≤ T.length ∧ w.heap.size ≤ z.2.2.1) ∧ e = .returned (evI z.1) ∧ Giv [ownB b (cellsB 81 [.map (some m), rstV bs T.length k])] w w' [ownB b (cellsB 81 [.map (some m), rstV bs T.length z.2.1]), itF (fun i => z.2.2.1 ≤ i ∧ i < z.2.2.2) [z.1]]) ∨ (∃ y : Nat, (rdI g d (T.drop k) = none ∧ y ≤ T.length) ∧ e = .panicked chW ∧ Giv [ownB b (cellsB 81 [.map (some m), rstV bs T.length k])] w w' [ownB b (cellsB 81 [.map (some m), rstV bs T.length y])])) := by
  refine enterO (args := [.pointer (some ⟨b, 0, none⟩), .int .i64 (4 - (d : Int))]) [ownB b (cellsB 81 [.map (some m), rstV bs T.length k])] [sl fpT 1 enStr (some ⟨bs, 0, none⟩) T, mp ekS evC m g, clsF fpC g] Tryz.func33 rfl (by rw [Tryz.ntmps33]; simp) hO hap hS ?_
  refine cj_seq (cj_region ?_)
  refine oj_alloc Tryz.zeroValue26 rfl rfl (fun b4 => ?_)
  refine oj_nil ?_
  refine ej_th (cj_seq (cj_region ?_))
  refine oj_step (y_move rfl) rfl rfl rfl ?_
  refine oj_callLP (X := ByteArray) (Y := Unit) (fun z => .string z) (fun _ => chW) (fun z => T[k]? = some z) (fun _ => T.length ≤ k) [ownB b (cellsB 81 [.map (some m), rstV bs T.length k])] (fun _ => [ownB b (cellsB 81 [.map (some m), rstV bs T.length (k + 1)])]) (fun _ => [ownB b (cellsB 81 [.map (some m), rstV bs T.length k])]) Tryz.call67 rfl rfl (fun w1 hp => by
    obtain ⟨q1, q2, q3⟩ := hp.ownL (Os := [ownB b (cellsB 81 [.map (some m), rstV bs T.length k])]) inferInstance
    exact k_take b m bs k T fpT w1 (by omega) q1 q2 (fun f hf => q3 f (by rw [List.mem_singleton.1 hf]; simp))) rfl (fun _ hT13 => ?_) (fun s13 hs13 => ?_)
  · dsimp only [List.cons_append, List.nil_append]
    have hno : rdI g d (T.drop k) = none := by
      rw [head_nil hT13]
      cases d <;> rfl
    repeat (first | with_reducible refine ej_then_pan ?_ | with_reducible refine ej_blk_pan ?_ | with_reducible refine ej_noGoto_pan ?_ | with_reducible refine ej_np_pan ?_)
    exact ej_pan rfl (fun w' hp => .inr ⟨k, ⟨hno, by omega⟩, rfl, hp.givT [ownB b (cellsB 81 [.map (some m), rstV bs T.length k])]⟩)
  dsimp only [List.cons_append, List.nil_append]
  refine oj_step (y_build (cs := [.string s13, .slice none 0 0, .slice none 0 0]) st26 rfl (by kernel_rfl)) rfl rfl rfl ?_
  refine oj_alloc Tryz.zeroValue26 rfl rfl (fun b5 => ?_)
  refine oj_store rfl rfl rfl rfl Tryz.sizeOf26 rfl ?_
  refine oj_nil ?_
  refine ej_th (cj_seq ?_)
  refine cj_plan 13 (by kernel_rfl) (by kernel_rfl) ?_
  refine pl_y 0 rfl (y_move rfl) rfl rfl rfl rfl (by kernel_rfl) ?_
  refine pl_y 1 rfl (y_nil rfl) rfl rfl rfl rfl (by kernel_rfl) ?_
  refine pl_y 2 rfl (y_fa0 fa81_0 rfl) rfl rfl rfl rfl (by kernel_rfl) ?_
  refine pl_y 3 rfl (y_load1 Tryz.isAgg73 rfl rfl) rfl rfl rfl rfl (by kernel_rfl) ?_
  refine pl_y 4 rfl (y_fa0 fa26_0 rfl) rfl rfl rfl rfl (by kernel_rfl) ?_
  refine pl_y 5 rfl (y_load1 Tryz.isAgg9 rfl rfl) rfl rfl rfl rfl (by kernel_rfl) ?_
  refine pl_y 6 rfl (y_lookupS (ek := ekS) (ev := evC) zC Tryz.underlying73 Tryz.underlying9 Tryz.zeroValue37 rfl rfl) rfl rfl rfl rfl (by kernel_rfl) ?_
  refine pl_y 7 rfl (y_move rfl) rfl rfl rfl rfl (by kernel_rfl) ?_
  refine pl_y 8 rfl (y_extract rfl rfl) rfl rfl rfl rfl (by kernel_rfl) ?_
  refine pl_y 9 rfl (y_extract rfl rfl) rfl rfl rfl rfl (by kernel_rfl) ?_
  refine pl_w1 10 (by kernel_rfl) rfl rfl (pl_fire rfl rfl rfl (by kernel_rfl) ?_)
  refine oj_alloc Tryz.zeroValue37 rfl rfl (fun b6 => ?_)
  refine oj_nil ?_
  refine ej_pl (lt_y (y_extract rfl rfl) rfl (lt_y (y_extract rfl rfl) rfl (lt_y (y_move rfl) rfl (lt_y (y_lookupS (ek := ekS) (ev := evC) zC Tryz.underlying73 Tryz.underlying9 Tryz.zeroValue37 rfl rfl) rfl (lt_y (y_load1 Tryz.isAgg9 rfl rfl) rfl (lt_y (y_fa0 fa26_0 rfl) rfl (lt_y (y_load1 Tryz.isAgg73 rfl rfl) rfl (lt_y (y_fa0 fa81_0 rfl) rfl (lt_y (y_nil rfl) rfl (lt_y (y_move rfl) rfl (lt_nil))))))))))) ?_
  refine pl_w1 11 (by kernel_rfl) rfl rfl (pl_fire rfl rfl rfl (by kernel_rfl) ?_)
  refine oj_store rfl rfl rfl rfl Tryz.sizeOf37 rfl ?_
  refine oj_nil ?_
  refine ej_pl (lt_y (y_extract rfl rfl) rfl (lt_w (by kernel_rfl) (lt_w (by kernel_rfl) (lt_w (by kernel_rfl) (lt_w (by kernel_rfl) (lt_w (by kernel_rfl) (lt_w (by kernel_rfl) (lt_w (by kernel_rfl) (lt_w (by kernel_rfl) (lt_w (by kernel_rfl) (lt_nil))))))))))) ?_
  refine pl_y 12 rfl (y_assign rfl) rfl rfl rfl rfl (by kernel_rfl) ?_
  refine pl_end (by kernel_rfl) ?_
  refine ej_th (cj_seq (cj_seq ?_))
  refine cj_regionG (gj_step (y_move rfl) rfl rfl rfl (gj_step (y_not rfl) rfl rfl rfl (gj_step (y_move rfl) rfl rfl rfl (gj_g 2 27 29 rfl rfl rfl rfl (fun hg27 => gj_yes rfl rfl rfl (y_move rfl) rfl rfl (gj_yes rfl rfl rfl (y_gtr rfl rfl) rfl rfl (gj_nil rfl))) (gj_step (y_or rfl rfl rfl) rfl rfl rfl (gj_nil ?_))))))
  refine ej_th ?_
  refine cj_cond rfl (fun h30 => ?_) (fun h30 => ?_)
  · have h30b := h30
    try simp only [sxb] at h30
    have hkl := (List.getElem?_eq_some_iff.1 hs13).1
    have hno : rdI g d (T.drop k) = none := by
      rw [(head_drop hs13).2.2]
      cases d with
      | zero => rfl
      | succ d =>
        rw [rdI]
        cases hc : getL g s13 with
        | none => rfl
        | some c =>
          rw [hc] at h30b
          simp at h30b
          omega
    refine cj_region ?_
    refine oj_step (y_build st122 rfl rfl) rfl rfl rfl ?_
    refine oj_step (y_iface rfl (by kernel_rfl)) rfl rfl rfl ?_
    refine oj_panic rfl ?_
    repeat (first | with_reducible refine ej_then_pan ?_ | with_reducible refine ej_blk_pan ?_ | with_reducible refine ej_noGoto_pan ?_ | with_reducible refine ej_np_pan ?_)
    first | exact ej_pan rfl (fun w' hp => .inr ⟨k + 1, ⟨hno, by omega⟩, rfl, hp.givT [ownB b (cellsB 81 [.map (some m), rstV bs T.length (k + 1)])]⟩) | exact ej_pan rfl (fun w' hp => .inr ⟨k1, ⟨hno, by omega⟩, rfl, hp.givT [ownB b (cellsB 81 [.map (some m), rstV bs T.length k1])]⟩) | exact ej_pan rfl (fun w' hp => .inr ⟨k3 + 1, ⟨hno, by omega⟩, rfl, hp.givT [ownB b (cellsB 81 [.map (some m), rstV bs T.length (k3 + 1)])]⟩)
  · have h30b := h30
    try simp only [sxb] at h30
    have hkl := (List.getElem?_eq_some_iff.1 hs13).1
    obtain ⟨c, hc⟩ : ∃ c, getL g s13 = some c := by
      cases hc : getL g s13 with
      | none => rw [hc] at h30b; simp at h30b
      | some c => exact ⟨c, rfl⟩
    rw [hc] at h30b ⊢
    dsimp only [Option.getD_some]
    obtain ⟨d, rfl⟩ : ∃ d1, d = d1 + 1 := by
      cases d with
      | zero => simp at h30b
      | succ d => exact ⟨d, rfl⟩
    have hrd := rdI_s (d := d) hs13 hc
    obtain ⟨pc, hpc, hpe⟩ := getL_mem hc
    obtain ⟨hc8, hcn⟩ := hgn pc hpc
    rw [hpe] at hc8 hcn
    refine cj_addS (sl fpC 3 encTr c.At c.traits) (fun w1 hp => by have h9 := cls_add hp (fp := fpC) (g := g) (by simp) hpc; rw [hpe] at h9; exact h9) ?_
    refine cj_skip (ej_th (cj_seq (cj_seq ?_)))
    refine cj_regionG (gj_step (y_fa fa37_1 rfl) rfl rfl rfl (gj_step (y_load1 Tryz.isAgg35 rfl rfl) rfl rfl rfl (gj_step (y_lenA Tryz.underlying35 rfl) rfl rfl rfl (gj_step (y_move rfl) rfl rfl rfl (gj_nil ?_)))))
    refine ej_th (cj_block ?_)
    refine cj_ownNil 9 1 enStr ?_
    refine cj_takes [ow 9 1 enStr none 0 ([] : List ByteArray), ownB b (cellsB 81 [.map (some m), rstV bs T.length (k + 1)]), ownB b6 (cellsB 37 (encCl c)), ownB b5 (cellsB 26 [.string s13, .slice none 0 0, .slice none 0 0]), ownB b4 (cellsB 26 [.string ⟨#[]⟩, .slice none 0 0, .slice none 0 0])] ?_
    refine cj_lpi (X := Nat × Nat × Option Addr × Nat × List ByteArray) [(0, _), (1, _), (4, _), (5, _), (34, _), (35, _)] (fun ⟨i, k1, A1, c1, ss⟩ => i ≤ c.traits.length ∧ (k + 1 ≤ k1 ∧ k1 ≤ T.length) ∧ ss.length = i ∧ (∀ u ∈ ss, u.size ≤ 65536) ∧ rdS c.traits (T.drop (k + 1)) = aftS ss (rdS (c.traits.drop i) (T.drop k1))) (fun ⟨i, k1, A1, c1, ss⟩ => [(36, .int .i64 (i : Nat))]) (fun ⟨i, k1, A1, c1, ss⟩ => [ow 9 1 enStr A1 c1 ss, ownB b (cellsB 81 [.map (some m), rstV bs T.length k1]), ownB b6 (cellsB 37 (encCl c)), ownB b5 (cellsB 26 [.string s13, .slice A1 ss.length c1, .slice none 0 0]), ownB b4 (cellsB 26 [.string ⟨#[]⟩, .slice none 0 0, .slice none 0 0])]) (fun ⟨i, k1, A1, c1, ss⟩ => [sl fpC 3 encTr c.At c.traits, sl fpT 1 enStr (some ⟨bs, 0, none⟩) T, mp ekS evC m g, clsF fpC g]) (fun ⟨i, k1, A1, c1, ss⟩ => c.traits.length - i) (0, k + 1, none, 0, []) (⟨Nat.zero_le _, ⟨Nat.le_refl _, by omega⟩, rfl, fun u hu => (by cases hu), by simp [aftS]⟩) ⟨rfl, rfl, rfl, rfl, rfl, rfl, rfl, trivial⟩ ?_
    rintro ⟨i, k1, A1, c1, ss⟩ ⟨hi, hk1, hsl, hss, hrs⟩
    dsimp only [List.cons_append, List.nil_append]
    refine cj_seq ?_
    refine cj_regionG (gj_step (y_lss rfl rfl) rfl rfl rfl (gj_nil ?_))
    refine ej_th (cj_seq ?_)
    refine cj_cond rfl (fun h37 => ?_) (fun h37 => ?_)
    · have h37b := h37
      try simp only [sxb] at h37
      obtain ⟨t, ht⟩ : ∃ t, c.traits[i]? = some t := ⟨_, List.getElem?_eq_getElem (by omega)⟩
      have htn := hcn t (List.mem_of_getElem? ht)
      have htd : c.traits.drop i = t :: c.traits.drop (i + 1) := by
        obtain ⟨h1, h2⟩ := List.getElem?_eq_some_iff.1 ht
        rw [List.drop_eq_getElem_cons h1, h2]
      have hHs : ((T.drop k1).headD ⟨#[]⟩).size ≤ 65536 := by
        by_cases h1 : k1 < T.length
        · have h2 := List.getElem?_eq_getElem h1
          rw [(head_drop h2).1]
          exact hsz _ (List.getElem_mem h1)
        · rw [head_nil (by omega)]; decide
      refine cj_skip (ej_th (cj_seq (cj_block (cj_seq (cj_region ?_)))))
      refine oj_step (y_ixR (reads_sl) Tryz.underlying35 Tryz.sizeOf39 rfl rfl (⟨by omega, by omega⟩)) rfl rfl rfl ?_
      refine oj_step (y_ldW (reads_sl) Tryz.isAgg39 Tryz.sizeOf39 rfl (ht) (fun _ => rfl)) rfl rfl rfl ?_
      refine oj_alloc Tryz.zeroValue39 rfl rfl (fun b9 => ?_)
      refine oj_store rfl rfl rfl rfl Tryz.sizeOf39 rfl ?_
      refine oj_nil ?_
      refine ej_th (cj_seq ?_)
      refine cj_draw (by kernel_rfl) (by kernel_rfl) ?_
      refine gj_step (y_move rfl) rfl rfl rfl (?_)
      refine gj_step (y_call Tryz.call69 rfl (fun w hp => k_next b m bs k1 T w hp.own1 hp.rd (by omega))) rfl rfl rfl ?_
      refine gj_step (y_fa0 fa39_0 rfl) rfl rfl rfl (gj_step (y_load1 Tryz.isAgg9 rfl rfl) rfl rfl rfl (gj_step (y_addS rfl rfl (by have h9 := htn; have h61 : (⟨#[61]⟩ : ByteArray).size = 1 := rfl; simp; omega)) rfl rfl rfl (?_)))
      refine gj_step (y_call Tryz.call68 rfl (fun w hp => cutp_call ((T.drop k1).headD ⟨#[]⟩) (t.name ++ tEq) w)) rfl rfl rfl ?_
      refine gj_step (y_move rfl) rfl rfl rfl (gj_step (y_extract rfl rfl) rfl rfl rfl (gj_step (y_extract rfl rfl) rfl rfl rfl (gj_step (y_assign rfl) rfl rfl rfl (gj_step (y_assign rfl) rfl rfl rfl (?_)))))
      refine gj_nil ?_
      refine ej_th (cj_seq (cj_seq ?_))
      generalize hsv : (⟨(if (by_ (t.name ++ tEq)).isPrefixOf (by_ ((T.drop k1).headD ⟨#[]⟩)) = true then (by_ ((T.drop k1).headD ⟨#[]⟩)).drop (by_ (t.name ++ tEq)).length else by_ ((T.drop k1).headD ⟨#[]⟩)).toArray⟩ : ByteArray) = sv
      refine cj_regionG (gj_step (y_move rfl) rfl rfl rfl (gj_step (y_move rfl) rfl rfl rfl (gj_g 2 50 52 rfl rfl rfl rfl (fun hg50 => gj_yes rfl rfl rfl (y_move rfl) rfl rfl (gj_yes rfl rfl rfl (y_eqlS rfl rfl) rfl rfl (gj_nil rfl))) (gj_step (y_and rfl rfl rfl) rfl rfl rfl (gj_nil ?_)))))
      refine ej_th ?_
      refine cj_cond rfl (fun h53 => ?_) (fun h53 => ?_)
      · have h53b := h53
        try simp only [sxb] at h53
        rw [Bool.and_eq_true] at h53b
        have hcut := cut_yes h53b.1
        rw [hsv, bytes_eq h53b.2] at hcut
        have hno : rdI g (d + 1) (T.drop k) = none := by
          rw [hrd, hrs, htd, rdS_bad hcut]; rfl
        refine cj_region ?_
        refine oj_step (y_build st122 rfl rfl) rfl rfl rfl ?_
        refine oj_step (y_iface rfl (by kernel_rfl)) rfl rfl rfl ?_
        refine oj_panic rfl ?_
        repeat (first | with_reducible refine ej_then_pan ?_ | with_reducible refine ej_blk_pan ?_ | with_reducible refine ej_noGoto_pan ?_ | with_reducible refine ej_np_pan ?_)
        first | exact ej_pan rfl (fun w' hp => .inr ⟨k + 1, ⟨hno, by omega⟩, rfl, hp.givT [ownB b (cellsB 81 [.map (some m), rstV bs T.length (k + 1)])]⟩) | exact ej_pan rfl (fun w' hp => .inr ⟨k1, ⟨hno, by omega⟩, rfl, hp.givT [ownB b (cellsB 81 [.map (some m), rstV bs T.length k1])]⟩) | exact ej_pan rfl (fun w' hp => .inr ⟨k3 + 1, ⟨hno, by omega⟩, rfl, hp.givT [ownB b (cellsB 81 [.map (some m), rstV bs T.length (k3 + 1)])]⟩)
      · have h53b := h53
        try simp only [sxb] at h53
        refine cj_skip (ej_th ?_)
        refine cj_cuti (X := Nat × ByteArray) [(36, _), (0, _), (1, _), (4, _), (5, _), (34, _), (35, _)] ⟨rfl, rfl, rfl, rfl, rfl, rfl, rfl, trivial⟩ (fun ⟨k2, s⟩ => (k1 ≤ k2 ∧ k2 ≤ T.length) ∧ s.size ≤ 65536 ∧ rdS (c.traits.drop i) (T.drop k1) = (rdS (c.traits.drop (i + 1)) (T.drop k2)).map fun o => (s :: o.1, o.2)) (fun ⟨k2, s⟩ => [(10, .string s)]) (fun ⟨k2, s⟩ => [ow 9 1 enStr A1 c1 ss, ownB b9 (cellsB 39 (encTr t)), ownB b (cellsB 81 [.map (some m), rstV bs T.length k2]), ownB b6 (cellsB 37 (encCl c)), ownB b5 (cellsB 26 [.string s13, .slice A1 ss.length c1, .slice none 0 0]), ownB b4 (cellsB 26 [.string ⟨#[]⟩, .slice none 0 0, .slice none 0 0])]) (fun ⟨k2, s⟩ => [sl fpC 3 encTr c.At c.traits, sl fpT 1 enStr (some ⟨bs, 0, none⟩) T, mp ekS evC m g, clsF fpC g]) ?_ ?_
        · refine cj_seq ?_
          refine cj_regionG (gj_step (y_move rfl) rfl rfl rfl (gj_nil ?_))
          refine ej_th ?_
          refine cj_cond rfl (fun h56 => ?_) (fun h56 => ?_)
          · have h56b := h56
            try simp only [sxb] at h56
            have hpre : (by_ (t.name ++ tEq)).isPrefixOf (by_ ((T.drop k1).headD ⟨#[]⟩)) = true := by simpa using h56
            have hcut := cut_yes hpre
            rw [hsv] at hcut
            have hk1l : k1 < T.length := Nat.lt_of_not_le fun h9 => tok_nn t.name sv (by rw [← cut_some hcut, head_nil h9]; rfl)
            have hsvn : sv ≠ ⟨#[]⟩ := fun h9 => by
              rw [Bool.and_eq_false_iff] at h53b
              rcases h53b with h8 | h8
              · rw [hpre] at h8; cases h8
              · rw [h9] at h8; exact absurd h8 (by decide)
            have hsvs := cut_size hcut
            refine cj_region ?_
            refine oj_step (y_move rfl) rfl rfl rfl ?_
            refine oj_callLP (X := ByteArray) (Y := Unit) (fun z => .string z) (fun _ => chW) (fun z => T[k1]? = some z) (fun _ => T.length ≤ k1) [ownB b (cellsB 81 [.map (some m), rstV bs T.length k1])] (fun _ => [ownB b (cellsB 81 [.map (some m), rstV bs T.length (k1 + 1)])]) (fun _ => [ownB b (cellsB 81 [.map (some m), rstV bs T.length k1])]) Tryz.call67 rfl rfl (fun w1 hp => by
              obtain ⟨q1, q2, q3⟩ := hp.ownL (Os := [ownB b (cellsB 81 [.map (some m), rstV bs T.length k1])]) inferInstance
              exact k_take b m bs k1 T fpT w1 (by omega) q1 q2 (fun f hf => q3 f (by rw [List.mem_singleton.1 hf]; simp))) rfl (fun _ hT58 => ?_) (fun s58 hs58 => ?_)
            · dsimp only [List.cons_append, List.nil_append]
              exact absurd hT58 (by omega)
            dsimp only [List.cons_append, List.nil_append]
            refine oj_nil ?_
            refine ej_takes [ow 9 1 enStr A1 c1 ss, ownB b9 (cellsB 39 (encTr t)), ownB b (cellsB 81 [.map (some m), rstV bs T.length (k1 + 1)]), ownB b6 (cellsB 37 (encCl c)), ownB b5 (cellsB 26 [.string s13, .slice A1 ss.length c1, .slice none 0 0]), ownB b4 (cellsB 26 [.string ⟨#[]⟩, .slice none 0 0, .slice none 0 0])] ?_
            exact ej_ct (k1 + 1, sv) ⟨by first | omega | (dsimp only; omega), Nat.le_trans hsvs hHs, by rw [htd, rdS_step hcut hsvn]⟩ ⟨rfl, rfl, rfl, rfl, rfl, rfl, rfl, rfl, trivial⟩
          · have h56b := h56
            try simp only [sxb] at h56
            have hpre : (by_ (t.name ++ tEq)).isPrefixOf (by_ ((T.drop k1).headD ⟨#[]⟩)) = false := by simpa using h56
            have hcut := cut_not hpre
            refine cj_regionG (gj_step (y_assign rfl) rfl rfl rfl (gj_nil ?_))
            refine ej_takes [ow 9 1 enStr A1 c1 ss, ownB b9 (cellsB 39 (encTr t)), ownB b (cellsB 81 [.map (some m), rstV bs T.length k1]), ownB b6 (cellsB 37 (encCl c)), ownB b5 (cellsB 26 [.string s13, .slice A1 ss.length c1, .slice none 0 0]), ownB b4 (cellsB 26 [.string ⟨#[]⟩, .slice none 0 0, .slice none 0 0])] ?_
            exact ej_ct (k1, ⟨#[]⟩) ⟨by first | omega | (dsimp only; omega), by decide, by rw [htd, rdS_skip hcut]⟩ ⟨rfl, rfl, rfl, rfl, rfl, rfl, rfl, rfl, trivial⟩
        · rintro ⟨k2, s⟩ ⟨hk2, hss2, hrs3⟩
          dsimp only [List.cons_append, List.nil_append]
          refine cj_region ?_
          refine oj_step (y_fa fa26_1 rfl) rfl rfl rfl ?_
          refine oj_step (y_load1 Tryz.isAgg23 rfl rfl) rfl rfl rfl ?_
          refine oj_step (y_move rfl) rfl rfl rfl ?_
          refine oj_buildSlice (cs := [.string s]) [.string ⟨#[]⟩] Tryz.underlying23 Tryz.sizeOf9 Tryz.zeroValue9 rfl rfl (by kernel_rfl) (by kernel_rfl) rfl (fun b62 => ?_)
          refine oj_append  el23 (fun _ => rfl) enStr_one rfl rfl rfl (reads_lit [s] (fun _ => rfl) rfl) (by unfold maxLen; simp only [List.length_cons, List.length_nil]; omega) (by simp only [List.length_cons, List.length_nil]; omega) rfl (fun A63 c63 => ?_)
          refine oj_step (y_fa fa26_1 rfl) rfl rfl rfl ?_
          refine oj_store rfl rfl rfl rfl Tryz.sizeOf23 rfl ?_
          refine oj_nil ?_
          refine ej_blk (ej_th ?_)
          refine cj_regionG (gj_step (y_add rfl rfl (by omega)) rfl rfl rfl (gj_step (y_move rfl) rfl rfl rfl (gj_nil ?_)))
          refine ej_takes [ow 9 1 enStr A63 c63 (ss ++ [s]), ownB b (cellsB 81 [.map (some m), rstV bs T.length k2]), ownB b6 (cellsB 37 (encCl c)), ownB b5 (cellsB 26 [.string s13, .slice A63 (ss ++ [s]).length c63, .slice none 0 0]), ownB b4 (cellsB 26 [.string ⟨#[]⟩, .slice none 0 0, .slice none 0 0])] ?_
          exact ej_nx (i + 1, k2, A63, c63, ss ++ [s]) (by first | omega | (simp only; omega)) ⟨by first | omega | (simp only; omega), by first | omega | (simp only; omega), by simp only [List.length_append, List.length_cons, List.length_nil]; omega, fun u hu => by
            rcases List.mem_append.1 hu with hu | hu
            · exact hss u hu
            · rw [List.mem_singleton.1 hu]; exact hss2, by rw [hrs, hrs3, aftS_one]⟩ ⟨rfl, rfl, rfl, rfl, rfl, rfl, rfl, trivial⟩
    · have h37b := h37
      try simp only [sxb] at h37
      have hie : i = c.traits.length := by omega
      have hrs2 : rdS c.traits (T.drop (k + 1)) = some (ss, T.drop k1) := by rw [hrs, hie, List.drop_length, rdS]; simp [aftS]
      rw [hrs2] at hrd
      refine cj_exit (ej_then_exit (ej_then_exit (ej_blk_hit (ej_th (cj_seq (cj_seq ?_))))))
      refine cj_regionG ?_
      refine gj_step (y_move rfl) rfl rfl rfl (?_)
      refine gj_step (y_call Tryz.call69 rfl (fun w hp => k_next b m bs k1 T w hp.own1 hp.rd (by omega))) rfl rfl rfl ?_
      refine gj_step (y_neqS rfl rfl) rfl rfl rfl (?_)
      refine gj_nil ?_
      refine ej_th ?_
      refine cj_cond rfl (fun h68 => ?_) (fun h68 => ?_)
      · have h68b := h68
        try simp only [sxb] at h68
        have hok : rdI g (d + 1) (T.drop k) = some ((ItemV.mk s13 A1 c1 ss none 0 []).pl, T.drop k1) := by
          rw [hrd, pl_eq, aftI_stop (fun h8 => by rw [h8] at h68; exact absurd h68 (by decide))]; rfl
        refine cj_seq (cj_region ?_)
        refine oj_step (y_loadN Tryz.isAgg26 Tryz.sizeOf26 rfl) rfl rfl rfl ?_
        refine oj_store rfl rfl rfl rfl Tryz.sizeOf26 rfl ?_
        refine oj_nil ?_
        refine ej_th (cj_ret (ej_then_ret ?_))
        exact ej_retC1 rfl Tryz.results33 rfl (y_loadN Tryz.isAgg26 Tryz.sizeOf26 rfl) (fun w' hp => .inl ⟨(ItemV.mk s13 A1 c1 ss none 0 [], k1, w.heap.size, w'.heap.size), ⟨hok, by dsimp only; omega, by dsimp only; omega, Nat.le_refl _⟩, rfl, giv_add (hp.givT [ownB b (cellsB 81 [.map (some m), rstV bs T.length k1])]) (itF (fun i => w.heap.size ≤ i ∧ i < w'.heap.size) [ItemV.mk s13 A1 c1 ss none 0 []]) (fun q hq => by
          rw [List.mem_singleton.1 hq]
          exact .mk (hp.resQ (ob := cellsB 81 [.map (some m), rstV bs T.length k1]) (A := A1) (e := 9) (c := c1) (enc := enStr) (xs := ss) inferInstance (fun _ => rfl) (by unfold maxLen; omega)) ⟨Nat.zero_le _, fun hn => absurd rfl hn⟩ (by show s13.size ≤ _; have h9 := hsz _ (List.mem_of_getElem? hs13); omega) (fun u hu => by have h9 := hss u hu; omega) (fun p hp2 => by cases hp2)) (fun i hi => hi) (fun f hf i hi => by
          rw [List.mem_singleton.1 hf] at hi
          have hi : i = b := hi
          subst hi
          exact (hO _ (List.mem_cons_self ..)).2 _ rfl)⟩)
      · have h68b := h68
        try simp only [sxb] at h68
        have hH : ((T.drop k1).headD ⟨#[]⟩) = tOpen := bytes_eq h68
        have hk1l : k1 < T.length := Nat.lt_of_not_le fun h9 => by
          rw [head_nil h9] at hH
          exact absurd hH (by decide)
        have hT1 := List.getElem?_eq_getElem hk1l
        have hrd3 : rdI g (d + 1) (T.drop k) = (rdP (rdI g d) (T.drop (k1 + 1)).length (T.drop (k1 + 1))).map (fun o => (IT.mk s13 ss o.1, o.2)) := by
          rw [hrd, (head_drop hT1).2.2, aftI_open (by rw [← (head_drop hT1).1]; exact hH)]
        refine cj_skip (ej_th (cj_seq (cj_region ?_)))
        refine oj_step (y_move rfl) rfl rfl rfl ?_
        refine oj_callLP (X := ByteArray) (Y := Unit) (fun z => .string z) (fun _ => chW) (fun z => T[k1]? = some z) (fun _ => T.length ≤ k1) [ownB b (cellsB 81 [.map (some m), rstV bs T.length k1])] (fun _ => [ownB b (cellsB 81 [.map (some m), rstV bs T.length (k1 + 1)])]) (fun _ => [ownB b (cellsB 81 [.map (some m), rstV bs T.length k1])]) Tryz.call67 rfl rfl (fun w1 hp => by
          obtain ⟨q1, q2, q3⟩ := hp.ownL (Os := [ownB b (cellsB 81 [.map (some m), rstV bs T.length k1])]) inferInstance
          exact k_take b m bs k1 T fpT w1 (by omega) q1 q2 (fun f hf => q3 f (by rw [List.mem_singleton.1 hf]; simp))) rfl (fun _ hT71 => ?_) (fun s71 hs71 => ?_)
        · dsimp only [List.cons_append, List.nil_append]
          exact absurd hT71 (by omega)
        dsimp only [List.cons_append, List.nil_append]
        refine oj_nil ?_
        refine ej_th (cj_block ?_)
        refine cj_ownNil 26 3 encIt ?_
        refine cj_addS (itF (fun _ => False) []) (fun w hp => ⟨fun z hz => (by cases hz), fun i hi => hi.elim⟩) ?_
        refine cj_takes [ow 26 3 encIt none 0 ([] : List ItemV), ownB b (cellsB 81 [.map (some m), rstV bs T.length (k1 + 1)]), ow 9 1 enStr A1 c1 ss, ownB b6 (cellsB 37 (encCl c)), ownB b5 (cellsB 26 [.string s13, .slice A1 ss.length c1, .slice none 0 0]), ownB b4 (cellsB 26 [.string ⟨#[]⟩, .slice none 0 0, .slice none 0 0])] ?_
        refine cj_lpi (X := Nat × Nat × Option Addr × Nat × List ItemV × (Nat → Prop)) [(0, _), (1, _), (4, _), (5, _)] (fun ⟨n, k2, A2, c2, ps, fp⟩ => (k1 + 1 ≤ k2 ∧ k2 ≤ T.length) ∧ T.length - k2 ≤ n ∧ ps.length ≤ k2 ∧ (∀ i, fp i → w.heap.size ≤ i) ∧ rdP (rdI g d) (T.drop (k1 + 1)).length (T.drop (k1 + 1)) = aftP (ps.map ItemV.pl) (rdP (rdI g d) n (T.drop k2))) (fun ⟨n, k2, A2, c2, ps, fp⟩ => []) (fun ⟨n, k2, A2, c2, ps, fp⟩ => [ow 26 3 encIt A2 c2 ps, ownB b (cellsB 81 [.map (some m), rstV bs T.length k2]), ow 9 1 enStr A1 c1 ss, ownB b6 (cellsB 37 (encCl c)), ownB b5 (cellsB 26 [.string s13, .slice A1 ss.length c1, .slice A2 ps.length c2]), ownB b4 (cellsB 26 [.string ⟨#[]⟩, .slice none 0 0, .slice none 0 0])]) (fun ⟨n, k2, A2, c2, ps, fp⟩ => [itF fp ps, sl fpC 3 encTr c.At c.traits, sl fpT 1 enStr (some ⟨bs, 0, none⟩) T, mp ekS evC m g, clsF fpC g]) (fun ⟨n, k2, A2, c2, ps, fp⟩ => T.length - k2) ((T.drop (k1 + 1)).length, k1 + 1, none, 0, [], fun _ => False) (⟨⟨Nat.le_refl _, by omega⟩, by rw [List.length_drop]; omega, Nat.zero_le _, fun i h => h.elim, by simp [aftP]⟩) ⟨rfl, rfl, rfl, rfl, trivial⟩ ?_
        rintro ⟨n, k2, A2, c2, ps, fp⟩ ⟨hk2, hn, hpl, hfn, hrp⟩
        dsimp only [List.cons_append, List.nil_append]
        refine cj_block (cj_seq ?_)
        refine cj_plan 10 (by kernel_rfl) (by kernel_rfl) ?_
        refine pl_y 0 rfl (y_fa fa26_2 rfl) rfl rfl rfl rfl (by kernel_rfl) ?_
        refine pl_y 1 rfl (y_load1 Tryz.isAgg24 rfl rfl) rfl rfl rfl rfl (by kernel_rfl) ?_
        refine pl_y 2 rfl (y_move rfl) rfl rfl rfl rfl (by kernel_rfl) ?_
        refine pl_y 3 rfl (y_move rfl) rfl rfl rfl rfl (by kernel_rfl) ?_
        refine pl_y 4 rfl (y_add rfl rfl (by omega)) rfl rfl rfl rfl (by kernel_rfl) ?_
        refine pl_w1 5 (by kernel_rfl) rfl rfl (pl_fire rfl rfl rfl (by kernel_rfl) ?_)
        refine oj_callLP (X := ItemV × Nat × Nat × Nat) (Y := Nat) (fun z => evI z.1) (fun _ => chW) (fun z => rdI g d (T.drop k2) = some (z.1.pl, T.drop z.2.1) ∧ k2 < z.2.1 ∧ z.2.1 ≤ T.length ∧ w.heap.size ≤ z.2.2.1) (fun y => rdI g d (T.drop k2) = none ∧ y ≤ T.length) [ownB b (cellsB 81 [.map (some m), rstV bs T.length k2])] (fun z => [ownB b (cellsB 81 [.map (some m), rstV bs T.length z.2.1]), itF (fun i => z.2.2.1 ≤ i ∧ i < z.2.2.2) [z.1]]) (fun y => [ownB b (cellsB 81 [.map (some m), rstV bs T.length y])]) Tryz.call33 rfl rfl (fun w1 hp => by
          obtain ⟨q1, q2, q3⟩ := hp.ownL (Os := [ownB b (cellsB 81 [.map (some m), rstV bs T.length k2])]) inferInstance
          have hsz1 := hp.size
          have h9 := ih d rfl k2 (by omega) w1 q1 q2 (fun f hf => q3 f (by simp only [List.mem_cons, List.mem_nil_iff, or_false] at hf; rcases hf with rfl | rfl | rfl <;> simp))
          rw [show (4 : Int) - (d : Int) = 4 - ((d + 1 : Nat) : Int) + 1 by omega] at h9
          refine h9.mono fun e w' hx => ?_
          rcases hx with ⟨z, ⟨a1, a2, a3, a4⟩, hx⟩ | hx
          · exact .inl ⟨z, ⟨a1, a2, a3, Nat.le_trans hsz1 a4⟩, hx⟩
          · exact .inr hx) rfl (fun y2 hy2 => ?_) (fun z hz => ?_)
        · dsimp only [List.cons_append, List.nil_append]
          have hno : rdI g (d + 1) (T.drop k) = none := by
            rw [hrd3, hrp]
            have h8 : rdP (rdI g d) n (T.drop k2) = none := by
              cases n with
              | zero => rfl
              | succ n => rw [rdP, hy2.1]
            rw [h8]; rfl
          repeat (first | with_reducible refine ej_then_pan ?_ | with_reducible refine ej_blk_pan ?_ | with_reducible refine ej_noGoto_pan ?_ | with_reducible refine ej_np_pan ?_)
          exact ej_pan rfl (fun w' hp => .inr ⟨y2, ⟨hno, by omega⟩, rfl, hp.givT [ownB b (cellsB 81 [.map (some m), rstV bs T.length y2])]⟩)
        obtain ⟨y, k3, n1, n2⟩ := z
        dsimp only at hz
        obtain ⟨hz1, hz2, hz3, hz4⟩ := hz
        dsimp only [List.cons_append, List.nil_append]
        refine oj_frzT (itF (fun i => n1 ≤ i ∧ i < n2) [y]) (itF (fun i => fp i ∨ (n1 ≤ i ∧ i < n2)) (ps ++ [y])) (fun w1 hp => ?_) (fun i hi => ?_) ?_
        · intro q hq
          have h1 := hp.shared (itF fp ps) (by simp)
          have h2 := (hp.own (itF (fun i => n1 ≤ i ∧ i < n2) [y]) (by simp)).1
          rcases List.mem_append.1 hq with hq | hq
          · exact (h1.1 q hq).fp (fun _ h => .inl h)
          · exact (h2 q hq).fp (fun _ h => .inr h)
        · rcases hi with hi | hi
          · exact .inr ⟨itF fp ps, by simp, hi⟩
          · exact .inl hi
        refine oj_nil ?_
        refine ej_pl (lt_w (by kernel_rfl) (lt_y (y_move rfl) rfl (lt_w (by kernel_rfl) (lt_y (y_load1 Tryz.isAgg24 rfl rfl) rfl (lt_y (y_fa fa26_2 rfl) rfl (lt_nil)))))) ?_
        refine pl_w1 6 (by kernel_rfl) rfl rfl (pl_fire rfl rfl rfl (by kernel_rfl) ?_)
        refine oj_buildSlice (cs := [.string y.cls, .slice y.As y.says.length y.cs, .slice y.Ap y.parts.length y.cp]) [.string ⟨#[]⟩, .slice none 0 0, .slice none 0 0] Tryz.underlying24 Tryz.sizeOf26 Tryz.zeroValue26 rfl rfl (by kernel_rfl) (by kernel_rfl) rfl (fun b78 => ?_)
        refine oj_nil ?_
        refine ej_pl (lt_y (y_add rfl rfl (by omega)) rfl (lt_y (y_move rfl) rfl (lt_y (y_move rfl) rfl (lt_y (y_load1 Tryz.isAgg24 rfl rfl) rfl (lt_y (y_fa fa26_2 rfl) rfl (lt_nil)))))) ?_
        refine pl_w1 7 (by kernel_rfl) rfl rfl (pl_fire rfl rfl rfl (by kernel_rfl) ?_)
        refine oj_append  el24 (fun _ => rfl) encIt_one rfl rfl rfl (reads_lit [y] (fun _ => rfl) rfl) (by unfold maxLen; simp only [List.length_cons, List.length_nil]; omega) (by simp only [List.length_cons, List.length_nil]; omega) rfl (fun A79 c79 => ?_)
        refine oj_nil ?_
        refine ej_pl (lt_y (y_add rfl rfl (by omega)) rfl (lt_y (y_move rfl) rfl (lt_y (y_move rfl) rfl (lt_w (by kernel_rfl) (lt_y (y_fa fa26_2 rfl) rfl (lt_nil)))))) ?_
        refine pl_y 8 rfl (y_fa fa26_2 rfl) rfl rfl rfl rfl (by kernel_rfl) ?_
        refine pl_w1 9 (by kernel_rfl) rfl rfl (pl_fire rfl rfl rfl (by kernel_rfl) ?_)
        refine oj_store rfl rfl rfl rfl Tryz.sizeOf24 rfl ?_
        refine oj_nil ?_
        refine ej_pl (lt_w (by kernel_rfl) (lt_w (by kernel_rfl) (lt_w (by kernel_rfl) (lt_w (by kernel_rfl) (lt_w (by kernel_rfl) (lt_w (by kernel_rfl) (lt_nil))))))) ?_
        refine pl_end (by kernel_rfl) ?_
        refine ej_th (cj_seq (cj_region ?_))
        refine oj_step (y_move rfl) rfl rfl rfl ?_
        refine oj_callLP (X := ByteArray) (Y := Unit) (fun z => .string z) (fun _ => chW) (fun z => T[k3]? = some z) (fun _ => T.length ≤ k3) [ownB b (cellsB 81 [.map (some m), rstV bs T.length k3])] (fun _ => [ownB b (cellsB 81 [.map (some m), rstV bs T.length (k3 + 1)])]) (fun _ => [ownB b (cellsB 81 [.map (some m), rstV bs T.length k3])]) Tryz.call67 rfl rfl (fun w1 hp => by
          obtain ⟨q1, q2, q3⟩ := hp.ownL (Os := [ownB b (cellsB 81 [.map (some m), rstV bs T.length k3])]) inferInstance
          exact k_take b m bs k3 T fpT w1 (by omega) q1 q2 (fun f hf => q3 f (by rw [List.mem_singleton.1 hf]; simp))) rfl (fun _ hT82 => ?_) (fun s82 hs82 => ?_)
        · dsimp only [List.cons_append, List.nil_append]
          have hno : rdI g (d + 1) (T.drop k) = none := by
            rw [hrd3, hrp]
            have h8 : rdP (rdI g d) n (T.drop k2) = none := by
              cases n with
              | zero => rfl
              | succ n => rw [rdP, hz1, head_nil hT82]
            rw [h8]; rfl
          repeat (first | with_reducible refine ej_then_pan ?_ | with_reducible refine ej_blk_pan ?_ | with_reducible refine ej_noGoto_pan ?_ | with_reducible refine ej_np_pan ?_)
          exact ej_pan rfl (fun w' hp => .inr ⟨k3, ⟨hno, by omega⟩, rfl, hp.givT [ownB b (cellsB 81 [.map (some m), rstV bs T.length k3])]⟩)
        dsimp only [List.cons_append, List.nil_append]
        refine oj_nil ?_
        refine ej_th (cj_block (cj_seq ?_))
        refine cj_regionG (gj_step (y_eqlS rfl rfl) rfl rfl rfl (gj_step (y_assign rfl) rfl rfl rfl (gj_nil ?_)))
        refine ej_th ?_
        refine cj_cond rfl (fun h85 => ?_) (fun h85 => ?_)
        · have h85b := h85
          try simp only [sxb] at h85
          have he82 : s82 = tClose := bytes_eq (by simpa using h85)
          have hk3 := (List.getElem?_eq_some_iff.1 hs82).1
          obtain ⟨n, rfl⟩ : ∃ n1, n = n1 + 1 := ⟨n - 1, by omega⟩
          have hok : rdI g (d + 1) (T.drop k) = some ((ItemV.mk s13 A1 c1 ss A79 c79 (ps ++ [y])).pl, T.drop (k3 + 1)) := by
            rw [hrd3, hrp, rdP, hz1, (head_drop hs82).2.2]
            dsimp only
            rw [if_pos he82, show (ItemV.mk s13 A1 c1 ss A79 c79 (ps ++ [y])).pl = .mk s13 ss ((ps ++ [y]).map ItemV.pl) from pl_eq _]
            simp [aftP]
          refine cj_seq (cj_region ?_)
          refine oj_step (y_loadN Tryz.isAgg26 Tryz.sizeOf26 rfl) rfl rfl rfl ?_
          refine oj_store rfl rfl rfl rfl Tryz.sizeOf26 rfl ?_
          refine oj_nil ?_
          refine ej_th (cj_ret (ej_blk_ret (ej_blk_ret (ej_then_ret (ej_blk_ret ?_)))))
          exact ej_retC1 rfl Tryz.results33 rfl (y_loadN Tryz.isAgg26 Tryz.sizeOf26 rfl) (fun w' hp => .inl ⟨(ItemV.mk s13 A1 c1 ss A79 c79 (ps ++ [y]), (k3 + 1), w.heap.size, w'.heap.size), ⟨hok, by dsimp only; omega, by dsimp only; omega, Nat.le_refl _⟩, rfl, giv_add (hp.givT [ownB b (cellsB 81 [.map (some m), rstV bs T.length (k3 + 1)])]) (itF (fun i => w.heap.size ≤ i ∧ i < w'.heap.size) [ItemV.mk s13 A1 c1 ss A79 c79 (ps ++ [y])]) (fun q hq => by
            rw [List.mem_singleton.1 hq]
            exact .mk (hp.resQ (ob := cellsB 81 [.map (some m), rstV bs T.length (k3 + 1)]) (A := A1) (e := 9) (c := c1) (enc := enStr) (xs := ss) inferInstance (fun _ => rfl) (by unfold maxLen; omega)) (hp.resQ (ob := cellsB 81 [.map (some m), rstV bs T.length (k3 + 1)]) (A := A79) (e := 26) (c := c79) (enc := encIt) (xs := ps ++ [y]) inferInstance (fun _ => rfl) (by unfold maxLen; simp only [List.length_append, List.length_cons, List.length_nil]; omega)) (by show s13.size ≤ _; have h9 := hsz _ (List.mem_of_getElem? hs13); omega) (fun u hu => by have h9 := hss u hu; omega) (fun p hp2 => by
              have h7 := hp.shared (itF (fun i => fp i ∨ (n1 ≤ i ∧ i < n2)) (ps ++ [y])) (by simp)
              exact (h7.1 p hp2).fp (fun i hi => ⟨by rcases hi with hi | hi; exact hfn i hi; omega, h7.2.1 i hi⟩))) (fun i hi => hi) (fun f hf i hi => by
            rw [List.mem_singleton.1 hf] at hi
            have hi : i = b := hi
            subst hi
            exact (hO _ (List.mem_cons_self ..)).2 _ rfl)⟩)
        · have h85b := h85
          try simp only [sxb] at h85
          have hn85 : ¬ s82 = tClose := fun h9 => by rw [h9] at h85; exact absurd h85 (by decide)
          have hk3 := (List.getElem?_eq_some_iff.1 hs82).1
          obtain ⟨n, rfl⟩ : ∃ n1, n = n1 + 1 := ⟨n - 1, by omega⟩
          refine cj_seq ?_
          refine cj_regionG (gj_step (y_eqlS rfl rfl) rfl rfl rfl (gj_step (y_assign rfl) rfl rfl rfl (gj_nil ?_)))
          refine ej_th ?_
          refine cj_cond rfl (fun h88 => ?_) (fun h88 => ?_)
          · have h88b := h88
            try simp only [sxb] at h88
            have he82 : s82 = tSemi := bytes_eq (by simpa using h88)
            refine cj_skip (ej_blk (ej_blk ?_))
            refine ej_takes [ow 26 3 encIt A79 c79 (ps ++ [y]), ownB b (cellsB 81 [.map (some m), rstV bs T.length (k3 + 1)]), ow 9 1 enStr A1 c1 ss, ownB b6 (cellsB 37 (encCl c)), ownB b5 (cellsB 26 [.string s13, .slice A1 ss.length c1, .slice A79 (ps ++ [y]).length c79]), ownB b4 (cellsB 26 [.string ⟨#[]⟩, .slice none 0 0, .slice none 0 0])] ?_
            exact ej_nx (n, k3 + 1, A79, c79, ps ++ [y], (fun i => fp i ∨ (n1 ≤ i ∧ i < n2))) (by first | omega | (simp only; omega)) ⟨by first | omega | (simp only; omega), by first | omega | (simp only; omega), by simp only [List.length_append, List.length_cons, List.length_nil]; omega, fun i hi => by rcases hi with hi | hi; exact hfn i hi; omega, by
              rw [hrp, rdP, hz1, (head_drop hs82).2.2]
              dsimp only
              rw [if_neg hn85, if_pos he82, aftP_one]; simp⟩ ⟨rfl, rfl, rfl, rfl, trivial⟩
          · have h88b := h88
            try simp only [sxb] at h88
            have hn88 : ¬ s82 = tSemi := fun h9 => by rw [h9] at h88; exact absurd h88 (by decide)
            have hno : rdI g (d + 1) (T.drop k) = none := by
              rw [hrd3, hrp, rdP, hz1, (head_drop hs82).2.2]
              dsimp only
              rw [if_neg hn85, if_neg hn88]; rfl
            refine cj_region ?_
            refine oj_step (y_build st122 rfl rfl) rfl rfl rfl ?_
            refine oj_step (y_iface rfl (by kernel_rfl)) rfl rfl rfl ?_
            refine oj_panic rfl ?_
            repeat (first | with_reducible refine ej_then_pan ?_ | with_reducible refine ej_blk_pan ?_ | with_reducible refine ej_noGoto_pan ?_ | with_reducible refine ej_np_pan ?_)
            first | exact ej_pan rfl (fun w' hp => .inr ⟨k + 1, ⟨hno, by omega⟩, rfl, hp.givT [ownB b (cellsB 81 [.map (some m), rstV bs T.length (k + 1)])]⟩) | exact ej_pan rfl (fun w' hp => .inr ⟨k1, ⟨hno, by omega⟩, rfl, hp.givT [ownB b (cellsB 81 [.map (some m), rstV bs T.length k1])]⟩) | exact ej_pan rfl (fun w' hp => .inr ⟨k3 + 1, ⟨hno, by omega⟩, rfl, hp.givT [ownB b (cellsB 81 [.map (some m), rstV bs T.length (k3 + 1)])]⟩)

end Go.Proofs.YtlfbghkcfmcnlaaGreatDoor
namespace Go.Proofs.YtlfbghkcfmcnlaaGreatDoor
open Go.Sx Go.RowKit
set_option maxRecDepth 20000
theorem k_item (b m bs : Nat) (T : List ByteArray) (fpT : Nat → Prop) (g : List (ByteArray × ClassV)) (fpC : Nat → Prop) (hgn : ∀ p ∈ g, p.2.traits.length ≤ 8 ∧ ∀ t ∈ p.2.traits, t.name.size ≤ 16) (hsz : ∀ u ∈ T, u.size ≤ 65536) (hN : T.length ≤ 70000) : ∀ (d k : Nat) (w : World), k ≤ T.length → d ≤ 4 → (∀ f ∈ [ownB b (cellsB 81 [.map (some m), rstV bs T.length k])], f.P w ∧ ∀ b, f.fp b → b < w.heap.size) → ([ownB b (cellsB 81 [.map (some m), rstV bs T.length k])].Pairwise (fun f g => ∀ b, f.fp b → ¬ g.fp b)) → (∀ f ∈ [sl fpT 1 enStr (some ⟨bs, 0, none⟩) T, mp ekS evC m g, clsF fpC g], f.P w ∧ ∀ i, f.fp i → i < w.heap.size ∧ ∀ o ∈ [ownB b (cellsB 81 [.map (some m), rstV bs T.length k])], ¬ o.fp i) → Calls Tryz.prog 33 #[.pointer (some ⟨b, 0, none⟩), .int .i64 (4 - (d : Int))] w (fun e w' => (∃ z : ItemV × Nat × Nat × Nat, (rdI g d (T.drop k) = some (z.1.pl, T.drop z.2.1) ∧ k < z.2.1 ∧ z.2.1 ≤ T.length ∧ w.heap.size ≤ z.2.2.1) ∧ e = .returned (evI z.1) ∧ Giv [ownB b (cellsB 81 [.map (some m), rstV bs T.length k])] w w' [ownB b (cellsB 81 [.map (some m), rstV bs T.length z.2.1]), itF (fun i => z.2.2.1 ≤ i ∧ i < z.2.2.2) [z.1]]) ∨ (∃ y : Nat, (rdI g d (T.drop k) = none ∧ y ≤ T.length) ∧ e = .panicked chW ∧ Giv [ownB b (cellsB 81 [.map (some m), rstV bs T.length k])] w w' [ownB b (cellsB 81 [.map (some m), rstV bs T.length y])])) := by
  intro d
  induction d with
  | zero => intro k w hk hd hO hap hS; exact k_item1 b m bs T fpT g fpC 0 k w hgn hsz hN hk hd hO hap hS (fun d1 h => by omega)
  | succ d ih => intro k w hk hd hO hap hS; exact k_item1 b m bs T fpT g fpC (d + 1) k w hgn hsz hN hk hd hO hap hS (fun d1 h k1 hk1 w1 h1 h2 h3 => by
      obtain rfl : d1 = d := by omega
      exact ih k1 w1 hk1 (by omega) h1 h2 h3)
def RdOk (g : List (ByteArray × ClassV)) (s : ByteArray) (x : ItemV) (ok : Bool) : Prop := (ok = true ∧ rdI g 3 (splitT s) = some (x.pl, [])) ∨ (ok = false ∧ ∀ y : IT, rdI g 3 (splitT s) ≠ some (y, []))
theorem good_zero (fp : Nat → Prop) (w : World) : GoodF fp w (ItemV.mk ⟨#[]⟩ none 0 [] none 0 []) := .mk ⟨Nat.zero_le _, fun h => absurd rfl h⟩ ⟨Nat.zero_le _, fun h => absurd rfl h⟩ (by decide) (fun u h => by cases h) (fun p h => by cases h)
theorem rst0 (s : ByteArray) {z : Nat} : rstV z (splitT s).length 0 = .slice (some ⟨z, 0, none⟩) (splitT s).length (splitT s).length := by
  obtain ⟨_, a, R, h2, _⟩ := split_ok _ s rfl
  have h5 : splitT s = a :: R := h2
  rw [h5]; rfl

theorem k_read1A (b6 b7 : Nat) (w : World) : CallsD Tryz.prog 65 #[.pointer (some ⟨b6, 0, none⟩), .pointer (some ⟨b7, 0, none⟩)] .returning w (fun e u' w' => (∃ v, e = .returned v) ∧ u' = .returning ∧ Grow w w') := by
  refine callsD_rec .nilIface (fun i => i < w.heap.size) [] [] Tryz.func65 rfl (by rw [Tryz.ntmps65]; simp) (by rw [Tryz.ntmps65]; decide) (by rw [Tryz.ntmps65]; decide) rfl rfl rfl rfl rfl rfl (fun c₀ cs h => .inr ⟨rec_ret c₀ cs h, rfl, rfl⟩) ⟨rfl, rfl, rfl, Nat.le_refl _, fun _ hi => ⟨hi, rfl⟩, fun _ h => (by cases h), .nil, fun _ h => (by cases h)⟩ ?_
  refine cj_seq ?_
  refine cj_regionG (gj_step (y_move rfl) rfl rfl rfl (gj_step (y_neqNilI false ⟨_, Tryz.underlying20⟩ rfl (.inl ⟨rfl, rfl⟩)) rfl rfl rfl (gj_nil ?_)))
  refine ej_th ?_
  refine cj_condF rfl (rfl) ?_
  refine cj_skip ?_
  exact ej_end0 rfl Tryz.results65 (fun w' hp => ⟨⟨_, rfl⟩, rfl, hp.below⟩)

theorem k_read1B (b6 b7 : Nat) (w : World) (hO : ∀ f ∈ [ownB b6 (cellsB 26 [.string ⟨#[]⟩, .slice none 0 0, .slice none 0 0]), ownB b7 (cellsB 4 [.bool false])], f.P w ∧ ∀ b, f.fp b → b < w.heap.size) (hap : [ownB b6 (cellsB 26 [.string ⟨#[]⟩, .slice none 0 0, .slice none 0 0]), ownB b7 (cellsB 4 [.bool false])].Pairwise (fun f g => ∀ b, f.fp b → ¬ g.fp b)) : CallsD Tryz.prog 65 #[.pointer (some ⟨b6, 0, none⟩), .pointer (some ⟨b7, 0, none⟩)] (.panicking chW) w (fun e u' w' => (∃ v, e = .returned v) ∧ u' = .panicking [{ v := .iface 122 (.agg #[]), recovered := true }] ∧ Giv [ownB b6 (cellsB 26 [.string ⟨#[]⟩, .slice none 0 0, .slice none 0 0]), ownB b7 (cellsB 4 [.bool false])] w w' [ownB b6 (cellsB 26 [.string ⟨#[]⟩, .slice none 0 0, .slice none 0 0]), ownB b7 (cellsB 4 [.bool false])]) := by
  refine callsD_rec (.iface 122 (.agg #[])) (FrO w [ownB b6 (cellsB 26 [.string ⟨#[]⟩, .slice none 0 0, .slice none 0 0]), ownB b7 (cellsB 4 [.bool false])]) [ownB b6 (cellsB 26 [.string ⟨#[]⟩, .slice none 0 0, .slice none 0 0]), ownB b7 (cellsB 4 [.bool false])] [] Tryz.func65 rfl (by rw [Tryz.ntmps65]; simp) (by rw [Tryz.ntmps65]; decide) (by rw [Tryz.ntmps65]; decide) rfl rfl rfl rfl rfl rfl (fun c₀ cs h => .inl (rec_pan _ c₀ cs h)) ⟨rfl, rfl, rfl, Nat.le_refl _, fun _ hi => ⟨hi.1, rfl⟩, fun g hg => ⟨(hO g hg).1, fun b hb => ⟨(hO g hg).2 b hb, fun h => h.2 g hg hb⟩⟩, hap, fun _ h => (by cases h)⟩ ?_
  refine cj_seq ?_
  refine cj_regionG (gj_step (y_move rfl) rfl rfl rfl (gj_step (y_neqNilI true ⟨_, Tryz.underlying20⟩ rfl (.inr ⟨⟨_, _, rfl⟩, rfl⟩)) rfl rfl rfl (gj_nil ?_)))
  refine ej_th ?_
  refine cj_condT rfl (rfl) ?_
  refine cj_seq (cj_seq (cj_region ?_))
  refine oj_step (y_move rfl) rfl rfl rfl ?_
  refine oj_step (y_typeAssertT Tryz.underlying122 (fun _ h => by cases h) rfl) rfl rfl rfl ?_
  refine oj_step (y_move rfl) rfl rfl rfl ?_
  refine oj_step (y_extract rfl rfl) rfl rfl rfl ?_
  refine oj_step (y_extract rfl rfl) rfl rfl rfl ?_
  refine oj_alloc Tryz.zeroValue122 rfl rfl (fun b3 => ?_)
  refine oj_store rfl rfl rfl rfl Tryz.sizeOf122 rfl ?_
  refine oj_step (y_assign rfl) rfl rfl rfl ?_
  refine oj_nil ?_
  refine ej_th (cj_seq ?_)
  refine cj_regionG (gj_step (y_move rfl) rfl rfl rfl (gj_step (y_not rfl) rfl rfl rfl (gj_nil ?_)))
  refine ej_th ?_
  refine cj_condF rfl (rfl) ?_
  refine cj_skip (ej_th (cj_region ?_))
  refine oj_step (y_build st26 rfl rfl) rfl rfl rfl ?_
  refine oj_store rfl rfl rfl rfl Tryz.sizeOf26 rfl ?_
  refine oj_store rfl rfl rfl rfl Tryz.sizeOf4 rfl ?_
  refine oj_nil ?_
  exact ej_end0 rfl Tryz.results65 (fun w' hp => ⟨⟨_, rfl⟩, rfl, hp.givT [ownB b6 (cellsB 26 [.string ⟨#[]⟩, .slice none 0 0, .slice none 0 0]), ownB b7 (cellsB 4 [.bool false])]⟩)

set_option maxHeartbeats 1600000 in
theorem k_read (b m : Nat) (mx : Int) (s : ByteArray) (g : List (ByteArray × ClassV)) (fpC : Nat → Prop) (w : World) (hgn : ∀ p ∈ g, p.2.traits.length ≤ 8 ∧ ∀ t ∈ p.2.traits, t.name.size ≤ 16) (hs : s.size ≤ 65536) (hO : ∀ f ∈ [ownB b (cellsB 81 [.map (some m), .slice none 0 0])], f.P w ∧ ∀ b, f.fp b → b < w.heap.size) (hap : [ownB b (cellsB 81 [.map (some m), .slice none 0 0])].Pairwise (fun f g => ∀ b, f.fp b → ¬ g.fp b)) (hS : ∀ f ∈ [gl 0 [.int .i64 mx], mp ekS evC m g, clsF fpC g], f.P w ∧ ∀ i, f.fp i → i < w.heap.size ∧ ∀ o ∈ [ownB b (cellsB 81 [.map (some m), .slice none 0 0])], ¬ o.fp i) : Calls Tryz.prog 32 #[.string s, .func (.func 33) #[.pointer (some ⟨b, 0, none⟩)] #[], .pointer (some ⟨b, 1, none⟩)] w (fun e w' => ∃ z : ItemV × Bool × Nat × Nat, RdOk g s z.1 z.2.1 ∧ e = .returned (.tuple #[evI z.1, .bool z.2.1]) ∧ Giv [ownB b (cellsB 81 [.map (some m), .slice none 0 0])] w w' [itF (fun i => z.2.2.1 ≤ i ∧ i < z.2.2.2) [z.1]]) := by
  refine enterDO (args := [.string s, .func (.func 33) #[.pointer (some ⟨b, 0, none⟩)] #[], .pointer (some ⟨b, 1, none⟩)]) [ownB b (cellsB 81 [.map (some m), .slice none 0 0])] [gl 0 [.int .i64 mx], mp ekS evC m g, clsF fpC g] Tryz.func32 rfl (by rw [Tryz.ntmps32]; simp) hO hap hS ?_
  refine cj_seq (cj_region ?_)
  refine oj_alloc Tryz.zeroValue26 rfl rfl (fun b6 => ?_)
  refine oj_alloc Tryz.zeroValue4 rfl rfl (fun b7 => ?_)
  refine oj_nil ?_
  refine ej_th (cj_seq (cj_region ?_))
  refine oj_step (y_makeFunc rfl rfl) rfl rfl rfl ?_
  refine oj_defer rfl rfl rfl ?_
  refine oj_nil ?_
  refine ej_th (cj_seq (cj_region ?_))
  refine oj_step (y_move rfl) rfl rfl rfl ?_
  refine oj_step (y_move rfl) rfl rfl rfl ?_
  refine oj_call (X := Nat) (fun z => rstV z (splitT s).length 0) (fun _ => []) (fun z => [litS z 1 enStr (splitT s)]) Tryz.call66 rfl (fun w1 hp => (split_sh s mx w1 hs ((hp.shared (gl 0 [.int .i64 mx]) (by simp)).1 0 _ rfl)).mono fun e w2 ⟨z, he, h⟩ => ⟨z, he.trans (by rw [rst0 s]), h⟩) rfl (fun bs => ?_)
  dsimp only [List.cons_append, List.nil_append]
  refine oj_step (y_nil rfl) rfl rfl rfl ?_
  refine oj_store rfl rfl rfl rfl Tryz.sizeOf23 rfl ?_
  refine oj_nil ?_
  refine ej_th (cj_seq (cj_region ?_))
  refine oj_step (y_move rfl) rfl rfl rfl ?_
  refine oj_callLP (X := ItemV × Nat × Nat × Nat) (Y := Nat) (fun z => evI z.1) (fun _ => chW) (fun z => rdI g 3 (splitT s) = some (z.1.pl, (splitT s).drop z.2.1) ∧ z.2.1 ≤ (splitT s).length) (fun y => rdI g 3 (splitT s) = none) [ownB b (cellsB 81 [.map (some m), rstV bs (splitT s).length 0])] (fun z => [ownB b (cellsB 81 [.map (some m), rstV bs (splitT s).length z.2.1]), itF (fun i => z.2.2.1 ≤ i ∧ i < z.2.2.2) [z.1]]) (fun y => [ownB b (cellsB 81 [.map (some m), rstV bs (splitT s).length y])]) Tryz.call33 rfl rfl (fun w1 hp => by
    obtain ⟨q1, q2, q3⟩ := hp.ownL (Os := [ownB b (cellsB 81 [.map (some m), rstV bs (splitT s).length 0])]) inferInstance
    have h9 := k_item b m bs (splitT s) (fun i => i = bs) g fpC hgn (fun u hu => Nat.le_trans ((split_sz s).2 u hu) hs) (by have := (split_sz s).1; omega) 3 0 w1 (Nat.zero_le _) (by omega) q1 q2 (fun f hf => q3 f (by simp only [List.mem_cons, List.mem_nil_iff, or_false] at hf; rcases hf with rfl | rfl | rfl; exact .head _; simp; simp))
    rw [List.drop_zero] at h9
    refine h9.mono fun e w' hx => ?_
    rcases hx with ⟨z, ⟨a1, a2, a3, a4⟩, hx⟩ | ⟨y, ⟨a1, a2⟩, hx⟩
    · exact .inl ⟨z, ⟨a1, a3⟩, hx⟩
    · exact .inr ⟨y, a1, hx⟩) rfl (fun y2 hy2 => ?_) (fun z hz => ?_)
  · dsimp only [List.cons_append, List.nil_append]
    repeat (first | with_reducible refine ej_then_pan ?_ | with_reducible refine ej_blk_pan ?_ | with_reducible refine ej_noGoto_pan ?_ | with_reducible refine ej_np_pan ?_)
    refine ej_panL (ch' := [{ v := .iface 122 (.agg #[]), recovered := true }]) [ownB b6 (cellsB 26 [.string ⟨#[]⟩, .slice none 0 0, .slice none 0 0]), ownB b7 (cellsB 4 [.bool false])] [ownB b6 (cellsB 26 [.string ⟨#[]⟩, .slice none 0 0, .slice none 0 0]), ownB b7 (cellsB 4 [.bool false])] rfl Tryz.call65 rfl (fun w1 hp => ?_) (fun a w1 hr hp => by
      simp only [List.cons_append, List.nil_append] at hp
      exact ⟨_, res_CC Tryz.results32 rfl (y_loadN Tryz.isAgg26 Tryz.sizeOf26 rfl) rfl (y_load1 Tryz.isAgg4 rfl rfl) hr hp, (ItemV.mk ⟨#[]⟩ none 0 [] none 0 [], false, 0, 0), .inr ⟨rfl, fun y hy => by rw [hy2] at hy; cases hy⟩, rfl, giv_add (hp.givT []) _ (fun q hq => by rw [List.mem_singleton.1 hq]; exact good_zero _ _) (fun i hi => absurd hi.2 (Nat.not_lt_zero _)) (fun _ h => by cases h)⟩)
    obtain ⟨q1, q2, _⟩ := hp.ownL (Os := [ownB b6 (cellsB 26 [.string ⟨#[]⟩, .slice none 0 0, .slice none 0 0]), ownB b7 (cellsB 4 [.bool false])]) inferInstance
    exact k_read1B b6 b7 w1 q1 q2
  obtain ⟨y, k3, n1, n2⟩ := z
  dsimp only at hz
  obtain ⟨hz1, hz3⟩ := hz
  dsimp only [List.cons_append, List.nil_append]
  refine oj_store rfl rfl rfl rfl Tryz.sizeOf26 rfl ?_
  refine oj_nil ?_
  refine ej_th (cj_seq ?_)
  refine cj_plan 8 (by kernel_rfl) (by kernel_rfl) ?_
  refine pl_y 0 rfl (y_loadN Tryz.isAgg26 Tryz.sizeOf26 rfl) rfl rfl rfl rfl (by kernel_rfl) ?_
  refine pl_y 1 rfl (y_move rfl) rfl rfl rfl rfl (by kernel_rfl) ?_
  refine pl_y 2 rfl (y_nil rfl) rfl rfl rfl rfl (by kernel_rfl) ?_
  refine pl_y 3 rfl (y_load1 Tryz.isAgg23 rfl rfl) rfl rfl rfl rfl (by kernel_rfl) ?_
  refine pl_y 4 rfl (y_lenA Tryz.underlying23 rfl) rfl rfl rfl rfl (by kernel_rfl) ?_
  refine pl_y 5 rfl (y_eql rfl rfl) rfl rfl rfl rfl (by kernel_rfl) ?_
  refine pl_w1 6 (by kernel_rfl) rfl rfl (pl_fire rfl rfl rfl (by kernel_rfl) ?_)
  refine oj_store rfl rfl rfl rfl Tryz.sizeOf26 rfl ?_
  refine oj_nil ?_
  refine ej_pl (lt_y (y_eql rfl rfl) rfl (lt_y (y_lenA Tryz.underlying23 rfl) rfl (lt_y (y_load1 Tryz.isAgg23 rfl rfl) rfl (lt_y (y_nil rfl) rfl (lt_y (y_move rfl) rfl (lt_w (by kernel_rfl) (lt_nil))))))) ?_
  refine pl_w1 7 (by kernel_rfl) rfl rfl (pl_fire rfl rfl rfl (by kernel_rfl) ?_)
  refine oj_store rfl rfl rfl rfl Tryz.sizeOf4 rfl ?_
  refine oj_nil ?_
  refine ej_pl (lt_w (by kernel_rfl) (lt_w (by kernel_rfl) (lt_w (by kernel_rfl) (lt_w (by kernel_rfl) (lt_w (by kernel_rfl) (lt_w (by kernel_rfl) (lt_nil))))))) ?_
  refine pl_end (by kernel_rfl) ?_
  refine ej_th (cj_ret ?_)
  have hok : RdOk g s y ((((splitT s).length - k3 : Nat) : Int) == 0) := by
    by_cases h : (splitT s).length - k3 = 0
    · exact .inl ⟨by rw [h]; rfl, by rw [hz1, List.drop_of_length_le (by omega)]⟩
    · refine .inr ⟨by rw [beq_eq_false_iff_ne]; omega, fun y2 hy2 => ?_⟩
      rw [hz1] at hy2
      injection hy2 with hy2
      injection hy2 with hy2 hy3
      have h9 := congrArg List.length hy3
      rw [List.length_drop] at h9
      exact h h9
  exact ej_retD rfl Tryz.call65 (fun w1 hp => k_read1A b6 b7 w1) (fun a w1 hr hp => ⟨_, res_CC Tryz.results32 rfl (y_loadN Tryz.isAgg26 Tryz.sizeOf26 rfl) rfl (y_load1 Tryz.isAgg4 rfl rfl) hr hp, (y, ((((splitT s).length - k3 : Nat) : Int) == 0), n1, n2), hok, rfl, hp.givT [itF (fun i => n1 ≤ i ∧ i < n2) [y]]⟩)

end Go.Proofs.YtlfbghkcfmcnlaaGreatDoor
namespace Go.Proofs.YtlfbghkcfmcnlaaGreatDoor
open Go.Sx Go.RowKit
set_option maxRecDepth 20000
theorem gram_tr {l : List ClassV} (h : gramOk l = true) : ∀ p ∈ gramM l, p.2.traits.length ≤ 8 ∧ ∀ t ∈ p.2.traits, t.name.size ≤ 16 := by
  intro p hp
  have hok := gram_cls h p.2 (gramM_mem hp)
  exact ⟨hok.few, fun t ht => isW_size (hok.tn t ht)⟩

set_option maxHeartbeats 1600000 in
theorem k_Parse (l : List ClassV) (A : Option Addr) (c : Nat) (s : ByteArray) (mx : Int) (w : World) (hl : Rd w 4 encCl A l) (hgc : ∀ c ∈ l, GoodC w c) (hss : s.size ≤ 9223372036854775807) (hm0 : Gl w 0 [.int .i64 mx]) : Calls Tryz.prog 8 #[.slice A l.length c, .string s] w (fun e w' => ∃ z : ItemV × Int × Nat × Nat, PrsR l s z.1 z.2.1 ∧ e = .returned (.tuple #[evI z.1, .int .i64 z.2.1]) ∧ Giv [] w w' [itF (fun i => z.2.2.1 ≤ i ∧ i < z.2.2.2) [z.1]]) := by
  refine enterO (args := [.slice A l.length c, .string s]) [] [sl (fun b => b < w.heap.size) 4 encCl A l, clsF (fun b => b < w.heap.size) (gramM l), gl 0 [.int .i64 mx]] Tryz.func8 rfl (by rw [Tryz.ntmps8]; simp) (fun _ h => by cases h) .nil (fun f hf => ?_) ?_
  · simp only [List.mem_cons, List.mem_nil_iff, or_false] at hf
    rcases hf with rfl | rfl | rfl
    · exact ⟨hl, fun i hi => ⟨hi, fun o ho => by cases ho⟩⟩
    · exact ⟨fun p hp => (hgc p.2 (gramM_mem hp)).rt, fun i hi => ⟨hi, fun o ho => by cases ho⟩⟩
    · exact ⟨hm0.1, fun i hi => ⟨by have hi : i = 0 := hi; subst hi; exact hm0.2, fun o ho => by cases ho⟩⟩
  refine cj_seq (cj_region ?_)
  refine oj_alloc Tryz.zeroValue26 rfl rfl (fun b4 => ?_)
  refine oj_step (y_assign rfl) rfl rfl rfl ?_
  refine oj_nil ?_
  refine ej_th (cj_seq (cj_region ?_))
  refine oj_step (y_move rfl) rfl rfl rfl ?_
  refine oj_call (X := Nat) (fun m => .tuple #[.map (bif gramOk l then some m else none), .int .i64 (gramE l)]) (fun _ => []) (fun m => bif gramOk l then [mp ekS evC m (gramM l)] else []) Tryz.call31 rfl (fun w1 hp => (k_grammarOf l A c w1 (hp.rd (fp := fun b => b < w.heap.size)) (fun c hc => (hgc c hc).mono hp.belowN)).mono fun e w2 ⟨m, he, hg, hm⟩ => ⟨m, he, hg, by simp, by simp, fun f hf => by
    cases hok : gramOk l with
    | false => rw [hok] at hf; cases hf
    | true =>
      rw [hok] at hf
      rw [List.mem_singleton.1 hf]
      have h3 := hm hok
      exact ⟨h3.1, fun i hi => by have : i = m := hi; subst this; exact ⟨h3.2.1, h3.2.2, by simp⟩⟩⟩) rfl (fun m15 => ?_)
  dsimp only [List.cons_append, List.nil_append]
  refine oj_step (y_move rfl) rfl rfl rfl ?_
  refine oj_step (y_extract rfl rfl) rfl rfl rfl ?_
  refine oj_step (y_extract rfl rfl) rfl rfl rfl ?_
  refine oj_step (y_assign rfl) rfl rfl rfl ?_
  refine oj_step (y_assign rfl) rfl rfl rfl ?_
  refine oj_nil ?_
  refine ej_th (cj_seq (cj_seq ?_))
  refine cj_regionG (gj_step (y_move rfl) rfl rfl rfl (gj_step (y_neq rfl rfl) rfl rfl rfl (gj_nil ?_)))
  refine ej_th ?_
  refine cj_cond rfl (fun h19 => ?_) (fun h19 => ?_)
  · have h19b := h19
    try simp only [sxb] at h19
    have hok : gramOk l = false := by
      cases hg : gramOk l with
      | false => rfl
      | true => rw [gramE, hg] at h19; simp at h19
    refine cj_seq (cj_region ?_)
    refine oj_step (y_build st26 rfl rfl) rfl rfl rfl ?_
    refine oj_step (y_move rfl) rfl rfl rfl ?_
    refine oj_store rfl rfl rfl rfl Tryz.sizeOf26 rfl ?_
    refine oj_step (y_assign rfl) rfl rfl rfl ?_
    refine oj_nil ?_
    refine ej_th (cj_ret (ej_then_ret ?_))
    have hE : gramE l = 10 := by rw [gramE, hok]; rfl
    rw [hE]
    exact ej_retC2 rfl Tryz.results8 rfl (y_loadN Tryz.isAgg26 Tryz.sizeOf26 rfl) rfl (fun w' hp => ⟨(zIV, 10, 0, 0), .gram hok, rfl, giv_add (hp.givT []) _ (fun q hq => by rw [List.mem_singleton.1 hq]; exact good_zero _ _) (fun i hi => absurd hi.2 (Nat.not_lt_zero _)) (fun _ h => by cases h)⟩)
  · have h19b := h19
    try simp only [sxb] at h19
    have hok : gramOk l = true := by
      cases hg : gramOk l with
      | true => rfl
      | false => rw [gramE, hg] at h19; simp at h19
    rw [hok]
    simp only [cond_true, List.cons_append, List.nil_append]
    refine cj_skip (ej_th (cj_seq (cj_seq ?_)))
    refine cj_regionG (gj_step (y_move rfl) rfl rfl rfl (gj_step (y_lenS Tryz.underlying9 rfl) rfl rfl rfl (gj_step (y_gtr rfl rfl) rfl rfl rfl (gj_nil ?_))))
    refine ej_th ?_
    refine cj_cond rfl (fun h24 => ?_) (fun h24 => ?_)
    · have h24b := h24
      try simp only [sxb] at h24
      have hlim : 65536 < s.size := by omega
      refine cj_seq (cj_region ?_)
      refine oj_step (y_build st26 rfl rfl) rfl rfl rfl ?_
      refine oj_store rfl rfl rfl rfl Tryz.sizeOf26 rfl ?_
      refine oj_step (y_assign rfl) rfl rfl rfl ?_
      refine oj_nil ?_
      refine ej_th (cj_ret (ej_then_ret ?_))
      exact ej_retC2 rfl Tryz.results8 rfl (y_loadN Tryz.isAgg26 Tryz.sizeOf26 rfl) rfl (fun w' hp => ⟨(zIV, 3, 0, 0), .limit hok hlim, rfl, giv_add (hp.givT []) _ (fun q hq => by rw [List.mem_singleton.1 hq]; exact good_zero _ _) (fun i hi => absurd hi.2 (Nat.not_lt_zero _)) (fun _ h => by cases h)⟩)
    · have h24b := h24
      try simp only [sxb] at h24
      refine cj_skip (ej_th (cj_seq (cj_region ?_)))
      refine oj_step (y_move rfl) rfl rfl rfl ?_
      refine oj_step (y_build (cs := [.map (some m15), .slice none 0 0]) st81 rfl rfl) rfl rfl rfl ?_
      refine oj_box rfl rfl rfl (fun b28 => ?_)
      refine oj_step (y_assign rfl) rfl rfl rfl ?_
      refine oj_nil ?_
      refine ej_th (cj_seq (cj_region ?_))
      refine oj_step (y_move rfl) rfl rfl rfl ?_
      refine oj_step (y_move rfl) rfl rfl rfl ?_
      refine oj_step (y_makeFunc rfl rfl) rfl rfl rfl ?_
      refine oj_step (y_move rfl) rfl rfl rfl ?_
      refine oj_step (y_nil rfl) rfl rfl rfl ?_
      refine oj_step (y_fa fa81_1 rfl) rfl rfl rfl ?_
      refine oj_callL (X := { z : ItemV × Bool × Nat × Nat // RdOk (gramM l) s z.1 z.2.1 }) (fun z => .tuple #[evI z.1.1, .bool z.1.2.1]) [ownB b28 (cellsB 81 [.map (some m15), .slice none 0 0])] (fun z => [itF (fun i => z.1.2.2.1 ≤ i ∧ i < z.1.2.2.2) [z.1.1]]) Tryz.call32 rfl rfl (fun w1 hp => by
        obtain ⟨q1, q2, q3⟩ := hp.ownL (Os := [ownB b28 (cellsB 81 [.map (some m15), .slice none 0 0])]) inferInstance
        refine (k_read b28 m15 mx s (gramM l) (fun b => b < w.heap.size) w1 (gram_tr hok) (by omega) q1 q2 (fun f hf => q3 f (by simp only [List.mem_cons, List.mem_nil_iff, or_false] at hf; rcases hf with rfl | rfl | rfl <;> simp))).mono fun e w2 ⟨z, h1, h2, h3⟩ => ⟨⟨z, h1⟩, h2, h3⟩) rfl (fun z => ?_)
      obtain ⟨⟨y, ok, n1, n2⟩, hz⟩ := z
      dsimp only [List.cons_append, List.nil_append]
      refine oj_step (y_move rfl) rfl rfl rfl ?_
      refine oj_step (y_extract rfl rfl) rfl rfl rfl ?_
      refine oj_step (y_extract rfl rfl) rfl rfl rfl ?_
      refine oj_alloc Tryz.zeroValue26 rfl rfl (fun b9 => ?_)
      refine oj_store rfl rfl rfl rfl Tryz.sizeOf26 rfl ?_
      refine oj_step (y_assign rfl) rfl rfl rfl ?_
      refine oj_nil ?_
      refine ej_th (cj_seq (cj_seq ?_))
      refine cj_regionG (gj_step (y_move rfl) rfl rfl rfl (gj_step (y_not rfl) rfl rfl rfl (gj_nil ?_)))
      refine ej_th ?_
      refine cj_cond rfl (fun h40 => ?_) (fun h40 => ?_)
      · have h40b := h40
        try simp only [sxb] at h40
        refine cj_seq (cj_region ?_)
        refine oj_step (y_build st26 rfl rfl) rfl rfl rfl ?_
        refine oj_store rfl rfl rfl rfl Tryz.sizeOf26 rfl ?_
        refine oj_step (y_assign rfl) rfl rfl rfl ?_
        refine oj_nil ?_
        refine ej_th (cj_ret (ej_then_ret ?_))
        exact ej_retC2 rfl Tryz.results8 rfl (y_loadN Tryz.isAgg26 Tryz.sizeOf26 rfl) rfl (fun w' hp => ⟨(zIV, 5, 0, 0), .form hok (by omega) (fun y2 hy2 => by
          rcases hz with ⟨h1, _⟩ | ⟨_, h2⟩
          · have h1 : ok = true := h1
            rw [h1] at h40; cases h40
          · exact absurd hy2 (h2 _)), rfl, giv_add (hp.givT []) _ (fun q hq => by rw [List.mem_singleton.1 hq]; exact good_zero _ _) (fun i hi => absurd hi.2 (Nat.not_lt_zero _)) (fun _ h => by cases h)⟩)
      · have h40b := h40
        try simp only [sxb] at h40
        have hrd : rdI (gramM l) 3 (splitT s) = some (y.pl, []) := by
          rcases hz with ⟨_, h2⟩ | ⟨h1, _⟩
          · exact h2
          · have h1 : ok = false := h1
            rw [h1] at h40; cases h40
        refine cj_skip (ej_th (cj_seq (cj_seq ?_)))
        refine cj_regionG ?_
        refine gj_step (y_move rfl) rfl rfl rfl (gj_step (y_loadN Tryz.isAgg26 Tryz.sizeOf26 rfl) rfl rfl rfl (?_))
        refine gj_step (y_call Tryz.call34 rfl (fun w hp => k_fitsA (((hp.own (itF (fun i => n1 ≤ i ∧ i < n2) [y]) (by simp)).1 y (List.mem_cons_self ..)).good (fun b hb => ((hp.own (itF (fun i => n1 ≤ i ∧ i < n2) [y]) (by simp)).2 b hb).1)) w m15 (gramM l) 1 24 ⟨rfl, rfl, rfl, Nat.le_refl _, fun _ _ => rfl⟩ hp.mpS.1 (hp.mpS (b := m15) (ek := ekS) (ev := evC) (l := gramM l)).2 (fun p hpm => (hgc p.2 (gramM_mem hpm)).mono hp.belowN) (by omega) (by omega))) rfl rfl rfl ?_
        refine gj_step (y_move rfl) rfl rfl rfl (gj_step (y_extract rfl rfl) rfl rfl rfl (gj_step (y_extract rfl rfl) rfl rfl rfl (gj_step (y_assign rfl) rfl rfl rfl (gj_step (y_assign rfl) rfl rfl rfl (?_)))))
        refine gj_nil ?_
        refine ej_th (cj_seq ?_)
        refine cj_regionG (gj_step (y_move rfl) rfl rfl rfl (gj_step (y_not rfl) rfl rfl rfl (gj_nil ?_)))
        refine ej_th ?_
        refine cj_cond rfl (fun h49 => ?_) (fun h49 => ?_)
        · have h49b := h49
          try simp only [sxb] at h49
          refine cj_seq (cj_region ?_)
          refine oj_step (y_build st26 rfl rfl) rfl rfl rfl ?_
          refine oj_store rfl rfl rfl rfl Tryz.sizeOf26 rfl ?_
          refine oj_step (y_assign rfl) rfl rfl rfl ?_
          refine oj_nil ?_
          refine ej_th (cj_ret (ej_then_ret ?_))
          exact ej_retC2 rfl Tryz.results8 rfl (y_loadN Tryz.isAgg26 Tryz.sizeOf26 rfl) rfl (fun w' hp => ⟨(zIV, 5, 0, 0), .form hok (by omega) (fun y2 hy2 => by
            rcases hz with ⟨h1, h2⟩ | ⟨_, h2⟩
            · rw [h2] at hy2
              injection hy2 with hy2
              injection hy2 with hy2 _
              have h9 : itemOk l y2 = itemOk l y := by unfold itemOk; rw [fitsI_pl _ y2 y 1 24 hy2.symm]
              rw [h9]; unfold itemOk; simpa using h49b
            · exact absurd hy2 (h2 _)), rfl, giv_add (hp.givT []) _ (fun q hq => by rw [List.mem_singleton.1 hq]; exact good_zero _ _) (fun i hi => absurd hi.2 (Nat.not_lt_zero _)) (fun _ h => by cases h)⟩)
        · have h49b := h49
          try simp only [sxb] at h49
          refine cj_skip (ej_th (cj_seq (cj_region ?_)))
          refine oj_step (y_loadN Tryz.isAgg26 Tryz.sizeOf26 rfl) rfl rfl rfl ?_
          refine oj_store rfl rfl rfl rfl Tryz.sizeOf26 rfl ?_
          refine oj_step (y_assign rfl) rfl rfl rfl ?_
          refine oj_nil ?_
          refine ej_th (cj_ret ?_)
          exact ej_retC2 rfl Tryz.results8 rfl (y_loadN Tryz.isAgg26 Tryz.sizeOf26 rfl) rfl (fun w' hp => ⟨(y, 0, n1, n2), .ok hok (by omega) y hrd (by unfold itemOk; simpa using h49b), rfl, hp.givT [itF (fun i => n1 ≤ i ∧ i < n2) [y]]⟩)

end Go.Proofs.YtlfbghkcfmcnlaaGreatDoor
namespace Go.Proofs.YtlfbghkcfmcnlaaGreatDoor
open Go.Sx Go.RowKit
set_option maxRecDepth 20000
theorem k_SameTx1 (l : List ByteArray) (A B : Option Addr) (c d : Nat) (w : World) (hl : Rd w 1 enStr A l) (hm : Rd w 1 enStr B l) : Calls Tryz.prog 75 #[.slice A l.length c, .slice B l.length d] w (fun e w' => e = .returned (.bool true) ∧ Grow w w') := by
  have hlen := hl.len
  refine enter_pure (args := [.slice A l.length c, .slice B l.length d]) [sl (fun b => b < w.heap.size) 1 enStr A l, sl (fun b => b < w.heap.size) 1 enStr B l] Tryz.func75 rfl (by rw [Tryz.ntmps75]; simp) (fun g hg => by simp at hg; rcases hg with rfl | rfl; exact ⟨hl, fun _ h => h⟩; exact ⟨hm, fun _ h => h⟩) ?_
  refine cj_seq ?_
  refine cj_regionG (gj_step (y_assign rfl) rfl rfl rfl (gj_nil ?_))
  refine ej_th (cj_seq ?_)
  refine cj_regionG (gj_step (y_move rfl) rfl rfl rfl (gj_step (y_lenA Tryz.underlying23 rfl) rfl rfl rfl (gj_step (y_move rfl) rfl rfl rfl (gj_step (y_lenA Tryz.underlying23 rfl) rfl rfl rfl (gj_step (y_eql rfl rfl) rfl rfl rfl (gj_step (y_assign rfl) rfl rfl rfl (gj_nil ?_)))))))
  refine ej_th (cj_seq (cj_seq ?_))
  refine cj_regionG (gj_step (y_assign rfl) rfl rfl rfl (gj_nil ?_))
  refine ej_th (cj_block ?_)
  refine cj_lpic (X := Nat × Bool) [(0, _), (1, _), (4, _)] (fun ⟨k, ok⟩ => k ≤ l.length ∧ ok = true) (fun ⟨k, ok⟩ => [(5, .bool ok), (6, .int .i64 k)]) (fun ⟨k, ok⟩ => l.length - k) (0, (l.length : Int) == (l.length : Int)) (⟨Nat.zero_le _, by simp⟩) ⟨rfl, rfl, rfl, rfl, rfl, trivial⟩ ?_
  rintro ⟨k, ok⟩ ⟨hk, hok⟩
  dsimp only [List.cons_append, List.nil_append]
  refine cj_seq (cj_seq ?_)
  refine cj_regionG (gj_step (y_move rfl) rfl rfl rfl (gj_step (y_move rfl) rfl rfl rfl (gj_g 4 13 17 rfl rfl rfl rfl (fun hg13 => gj_yes rfl rfl rfl (y_move rfl) rfl rfl (gj_yes rfl rfl rfl (y_move rfl) rfl rfl (gj_yes rfl rfl rfl (y_lenA Tryz.underlying23 rfl) rfl rfl (gj_yes rfl rfl rfl (y_lss rfl rfl) rfl rfl (gj_nil rfl))))) (gj_step (y_and rfl rfl rfl) rfl rfl rfl (gj_nil ?_)))))
  refine ej_th ?_
  refine cj_cond rfl (fun h18 => ?_) (fun h18 => ?_)
  · have h18b := h18
    try simp only [sxb] at h18
    rw [Bool.and_eq_true, decide_eq_true_eq] at h18b
    obtain ⟨x, hx⟩ : ∃ x, l[k]? = some x := ⟨_, List.getElem?_eq_getElem (by omega)⟩
    refine cj_skip (ej_th (cj_seq (cj_block ?_)))
    refine cj_draw (by kernel_rfl) (by kernel_rfl) (gj_step (y_move rfl) rfl rfl rfl (gj_step (y_move rfl) rfl rfl rfl (gj_step (y_ixR (reads_sl) Tryz.underlying23 Tryz.sizeOf9 rfl rfl (⟨by omega, by omega⟩)) rfl rfl rfl (gj_step (y_ld0 (reads_sl) Tryz.isAgg9 rfl (hx) rfl) rfl rfl rfl (gj_step (y_move rfl) rfl rfl rfl (gj_step (y_move rfl) rfl rfl rfl (gj_step (y_ixR (reads_sl) Tryz.underlying23 Tryz.sizeOf9 rfl rfl (⟨by omega, by omega⟩)) rfl rfl rfl (gj_step (y_ld0 (reads_sl) Tryz.isAgg9 rfl (hx) rfl) rfl rfl rfl (gj_step (y_eqlS rfl rfl) rfl rfl rfl (gj_step (y_assign rfl) rfl rfl rfl (gj_nil ?_)))))))))))
    refine ej_blk (ej_th ?_)
    refine cj_regionG (gj_step (y_move rfl) rfl rfl rfl (gj_step (y_add rfl rfl (by omega)) rfl rfl rfl (gj_step (y_assign rfl) rfl rfl rfl (gj_nil ?_))))
    exact ej_nx (k + 1, x == x) (by simp only; omega) ⟨by first | omega | (simp only; omega), by rw [bytes_beq]; exact decide_eq_true rfl⟩ ⟨rfl, rfl, rfl, rfl, rfl, trivial⟩
  · have h18b := h18
    try simp only [sxb] at h18
    refine cj_exit (ej_then_exit (ej_then_exit (ej_blk_hit (ej_th (cj_seq ?_)))))
    refine cj_regionG (gj_step (y_move rfl) rfl rfl rfl (gj_step (y_assign rfl) rfl rfl rfl (gj_nil ?_)))
    refine ej_th (cj_ret ?_)
    refine ej_ret1 rfl Tryz.results75 rfl (fun w' hp => ⟨?_, hp.below⟩)
    rw [hok]

theorem k_SameTx (l m : List ByteArray) (A B : Option Addr) (c d : Nat) (w : World) (hl : Rd w 1 enStr A l) (hm : Rd w 1 enStr B m) (he : l = m) : Calls Tryz.prog 75 #[.slice A l.length c, .slice B m.length d] w (fun e w' => e = .returned (.bool true) ∧ Grow w w') := by
  subst he; exact k_SameTx1 l A B c d w hl hm

theorem k_same1 (x y : ItemV) (deep : Int) (w : World) (hx : GoodI w x) (hy : GoodI w y) (he : x.pl = y.pl) (hd : (depT x.pl : Int) ≤ deep ∧ deep ≤ 100) (ih : ∀ q ∈ x.parts, ∀ r ∈ y.parts, ∀ (w1 : World), Grow w w1 → q.pl = r.pl → ((depT q.pl : Int) ≤ deep - 1 ∧ deep - 1 ≤ 100) → Calls Tryz.prog 38 #[evI q, evI r, .int .i64 (deep - 1)] w1 (fun e w' => e = .returned (.bool true) ∧ Grow w1 w')) : Calls Tryz.prog 38 #[evI x, evI y, .int .i64 deep] w (fun e w' => e = .returned (.bool true) ∧ Grow w w') := by
  have hl1 := hx.rs.len
  have hl2 := hx.rp.len
  have hce : x.cls = y.cls := by rw [← pl_cls x, ← pl_cls y, he]
  have hse : x.says = y.says := by rw [← pl_says x, ← pl_says y, he]
  have hpe : x.parts.map ItemV.pl = y.parts.map ItemV.pl := by rw [← pl_parts x, ← pl_parts y, he]
  have hple : x.parts.length = y.parts.length := by have := congrArg List.length hpe; simpa using this
  have hd1 := depT_eq x.pl
  refine enter_pure (args := [evI x, evI y, .int .i64 deep]) [] Tryz.func38 rfl (by rw [Tryz.ntmps38]; simp) (by simp) ?_
  refine cj_seq (cj_region ?_)
  refine oj_box rfl rfl rfl (fun b3 => ?_)
  refine oj_box rfl rfl rfl (fun b4 => ?_)
  refine oj_step (y_assign rfl) rfl rfl rfl ?_
  refine oj_nil ?_
  refine ej_th (cj_seq (cj_seq ?_))
  refine cj_rd hx.rs (fun _ h => h) ?_
  refine cj_rd hx.rp (fun _ h => h) ?_
  refine cj_rd hy.rs (fun _ h => h) ?_
  refine cj_rd hy.rp (fun _ h => h) ?_
  refine cj_regionG ?_
  refine gj_step (y_fa0 fa26_0 rfl) rfl rfl rfl (gj_step (y_load1 Tryz.isAgg9 rfl rfl) rfl rfl rfl (gj_step (y_fa0 fa26_0 rfl) rfl rfl rfl (gj_step (y_load1 Tryz.isAgg9 rfl rfl) rfl rfl rfl (gj_step (y_neqS rfl rfl) rfl rfl rfl (gj_step (y_move rfl) rfl rfl rfl (?_))))))
  refine gj_g 6 13 19 rfl rfl rfl rfl (fun hg13 => gj_yes rfl rfl rfl (y_fa fa26_1 rfl) rfl rfl (gj_yes rfl rfl rfl (y_load1 Tryz.isAgg23 rfl rfl) rfl rfl (gj_yes rfl rfl rfl (y_fa fa26_1 rfl) rfl rfl (gj_yes rfl rfl rfl (y_load1 Tryz.isAgg23 rfl rfl) rfl rfl (gj_yes rfl rfl rfl (y_call Tryz.call75 rfl (fun w hp => k_SameTx x.says y.says x.As y.As x.cs y.cs w hp.rd hp.rd hse)) rfl rfl (gj_yes rfl rfl rfl (y_not rfl) rfl rfl (gj_nil rfl))))))) ?_
  refine gj_step (y_or rfl rfl rfl) rfl rfl rfl (gj_step (y_move rfl) rfl rfl rfl (?_))
  refine gj_g 7 21 28 rfl rfl rfl rfl (fun hg21 => gj_yes rfl rfl rfl (y_fa fa26_2 rfl) rfl rfl (gj_yes rfl rfl rfl (y_load1 Tryz.isAgg24 rfl rfl) rfl rfl (gj_yes rfl rfl rfl (y_lenA Tryz.underlying24 rfl) rfl rfl (gj_yes rfl rfl rfl (y_fa fa26_2 rfl) rfl rfl (gj_yes rfl rfl rfl (y_load1 Tryz.isAgg24 rfl rfl) rfl rfl (gj_yes rfl rfl rfl (y_lenA Tryz.underlying24 rfl) rfl rfl (gj_yes rfl rfl rfl (y_neq rfl rfl) rfl rfl (gj_nil rfl)))))))) ?_
  refine gj_step (y_or rfl rfl rfl) rfl rfl rfl (gj_step (y_move rfl) rfl rfl rfl (?_))
  refine gj_g 2 30 32 rfl rfl rfl rfl (fun hg30 => gj_yes rfl rfl rfl (y_move rfl) rfl rfl (gj_yes rfl rfl rfl (y_eql rfl rfl) rfl rfl (gj_nil rfl))) ?_
  refine gj_step (y_or rfl rfl rfl) rfl rfl rfl (?_)
  refine gj_nil ?_
  refine ej_th ?_
  refine cj_cond rfl (fun h33 => ?_) (fun h33 => ?_)
  · exfalso
    rw [hce, hple] at h33
    have h8 : (y.cls == y.cls) = true := by rw [bytes_beq]; exact decide_eq_true rfl
    rw [h8] at h33
    simp at h33
    omega
  · have h33b := h33
    try simp only [sxb] at h33
    refine cj_skip (ej_th (cj_seq (cj_seq ?_)))
    refine cj_regionG (gj_step (y_assign rfl) rfl rfl rfl (gj_nil ?_))
    refine ej_th (cj_block ?_)
    refine cj_lpic (X := Nat) [(2, _), (3, _), (4, _)] (fun k => k ≤ x.parts.length ∧ True) (fun k => [(7, .int .i64 k)]) (fun k => x.parts.length - k) 0 (⟨Nat.zero_le _, trivial⟩) ⟨rfl, rfl, rfl, rfl, trivial⟩ ?_
    rintro k ⟨hk, -⟩
    dsimp only [List.cons_append, List.nil_append]
    refine cj_seq (cj_seq ?_)
    refine cj_regionG (gj_step (y_move rfl) rfl rfl rfl (gj_step (y_fa fa26_2 rfl) rfl rfl rfl (gj_step (y_load1 Tryz.isAgg24 rfl rfl) rfl rfl rfl (gj_step (y_lenA Tryz.underlying24 rfl) rfl rfl rfl (gj_step (y_lss rfl rfl) rfl rfl rfl (gj_nil ?_))))))
    refine ej_th ?_
    refine cj_cond rfl (fun h38 => ?_) (fun h38 => ?_)
    · have h38b := h38
      try simp only [sxb] at h38
      obtain ⟨q, hq⟩ : ∃ q, x.parts[k]? = some q := ⟨_, List.getElem?_eq_getElem (by omega)⟩
      obtain ⟨r, hr⟩ : ∃ r, y.parts[k]? = some r := ⟨_, List.getElem?_eq_getElem (by omega)⟩
      have hqr : q.pl = r.pl := by
        have h9 := congrArg (fun l : List IT => l[k]?) hpe
        simp only [List.getElem?_map, hq, hr, Option.map_some, Option.some.injEq] at h9
        exact h9
      have hdq : (depT q.pl : Int) ≤ deep - 1 ∧ deep - 1 ≤ 100 := by
        have h9 := depL_le x.pl.parts q.pl (by rw [pl_parts]; exact List.mem_map.2 ⟨q, List.mem_of_getElem? hq, rfl⟩)
        omega
      refine cj_skip (ej_th (cj_seq (cj_block (cj_seq ?_))))
      refine cj_draw (by kernel_rfl) (by kernel_rfl) ?_
      refine gj_step (y_fa fa26_2 rfl) rfl rfl rfl (gj_step (y_load1 Tryz.isAgg24 rfl rfl) rfl rfl rfl (gj_step (y_move rfl) rfl rfl rfl (gj_step (y_ixR (reads_sl) Tryz.underlying24 Tryz.sizeOf26 rfl rfl (⟨by omega, by omega⟩)) rfl rfl rfl (gj_step (y_ldW (reads_sl) Tryz.isAgg26 Tryz.sizeOf26 rfl (hq) (fun _ => rfl)) rfl rfl rfl (gj_step (y_fa fa26_2 rfl) rfl rfl rfl (gj_step (y_load1 Tryz.isAgg24 rfl rfl) rfl rfl rfl (gj_step (y_move rfl) rfl rfl rfl (gj_step (y_ixR (reads_sl) Tryz.underlying24 Tryz.sizeOf26 rfl rfl (⟨by omega, by omega⟩)) rfl rfl rfl (gj_step (y_ldW (reads_sl) Tryz.isAgg26 Tryz.sizeOf26 rfl (hr) (fun _ => rfl)) rfl rfl rfl (gj_step (y_move rfl) rfl rfl rfl (gj_step (y_sub rfl rfl (by omega)) rfl rfl rfl (?_))))))))))))
      refine gj_step (y_call Tryz.call38 rfl (fun w hp => ih q (List.mem_of_getElem? hq) r (List.mem_of_getElem? hr) w hp.below hqr hdq)) rfl rfl rfl ?_
      refine gj_step (y_not rfl) rfl rfl rfl (?_)
      refine gj_nil ?_
      refine ej_th ?_
      refine cj_cond rfl (fun h54 => ?_) (fun h54 => ?_)
      · cases h54
      · have h54b := h54
        try simp only [sxb] at h54
        refine cj_skip (ej_blk (ej_th ?_))
        refine cj_regionG (gj_step (y_move rfl) rfl rfl rfl (gj_step (y_add rfl rfl (by omega)) rfl rfl rfl (gj_step (y_assign rfl) rfl rfl rfl (gj_nil ?_))))
        exact ej_nx (k + 1) (by omega) ⟨by omega, trivial⟩ ⟨rfl, rfl, rfl, rfl, trivial⟩
    · have h38b := h38
      try simp only [sxb] at h38
      refine cj_exit (ej_then_exit (ej_then_exit (ej_blk_hit (ej_th (cj_seq ?_)))))
      refine cj_regionG (gj_step (y_assign rfl) rfl rfl rfl (gj_nil ?_))
      refine ej_th (cj_ret ?_)
      refine ej_ret1 rfl Tryz.results38 rfl (fun w' hp => ⟨?_, hp.below⟩)
      rfl

theorem k_same {w0 : World} {x : ItemV} (hx : GoodI w0 x) : ∀ (y : ItemV) (deep : Int) (w : World), Grow w0 w → GoodI w y → x.pl = y.pl → ((depT x.pl : Int) ≤ deep ∧ deep ≤ 100) → Calls Tryz.prog 38 #[evI x, evI y, .int .i64 deep] w (fun e w' => e = .returned (.bool true) ∧ Grow w w') := by
  induction hx with
  | mk hs hp hn hm hr ih =>
    intro y deep w hg hy he hd
    exact k_same1 _ y deep w ((GoodI.mk hs hp hn hm hr).mono hg) hy he hd (fun q hq r hr2 w1 hg1 hqr hd2 => ih q hq r (deep - 1) w1 (grow_trans hg hg1) ((hy.pt r hr2).mono hg1) hqr hd2)

theorem k_SameItems (x y : ItemV) (w : World) (hx : GoodI w x) (hy : GoodI w y) (he : x.pl = y.pl) (hd : depT x.pl ≤ 4) : Calls Tryz.prog 10 #[evI x, evI y] w (fun e w' => e = .returned (.bool true) ∧ Grow w w') := by
  refine enter_pure (args := [evI x, evI y]) [] Tryz.func10 rfl (by rw [Tryz.ntmps10]; simp) (by simp) ?_
  refine cj_seq (cj_region ?_)
  refine oj_box rfl rfl rfl (fun b2 => ?_)
  refine oj_box rfl rfl rfl (fun b3 => ?_)
  refine oj_step (y_assign rfl) rfl rfl rfl ?_
  refine oj_nil ?_
  refine ej_th (cj_seq ?_)
  refine cj_regionG ?_
  refine gj_step (y_loadN Tryz.isAgg26 Tryz.sizeOf26 rfl) rfl rfl rfl (gj_step (y_loadN Tryz.isAgg26 Tryz.sizeOf26 rfl) rfl rfl rfl (?_))
  refine gj_step (y_call Tryz.call38 rfl (fun w hp => k_same hx y 4 w hp.below (hy.mono hp.below) he (by omega))) rfl rfl rfl ?_
  refine gj_step (y_assign rfl) rfl rfl rfl (?_)
  refine gj_nil ?_
  refine ej_th (cj_ret ?_)
  refine ej_ret1 rfl Tryz.results10 rfl (fun w' hp => ⟨?_, hp.below⟩)
  rfl

end Go.Proofs.YtlfbghkcfmcnlaaGreatDoor
namespace Go.Proofs.YtlfbghkcfmcnlaaGreatDoor
open Go.Sx Go.RowKit
set_option maxRecDepth 20000
theorem k_ParseS (l : List ClassV) (A : Option Addr) (c : Nat) (s : ByteArray) (mx : Int) (w : World) (hl : Rd w 4 encCl A l) (hgc : ∀ c ∈ l, GoodC w c) (hss : s.size ≤ 9223372036854775807) (hm0 : Gl w 0 [.int .i64 mx]) : Calls Tryz.prog 8 #[.slice A l.length c, .string s] w (fun e w' => ∃ (y : ItemV) (E : Int), e = .returned (.tuple #[evI y, .int .i64 E]) ∧ Grow w w' ∧ PrsR l s y E ∧ GoodF (fun i => w.heap.size ≤ i ∧ i < w'.heap.size) w' y) := by
  refine (k_Parse l A c s mx w hl hgc hss hm0).mono fun e w' ⟨⟨y, E, n1, n2⟩, h1, h2, h3⟩ => ⟨y, E, h2, ⟨h3.mu.os, h3.mu.tape, h3.mu.output, h3.mu.size, fun b hb => h3.mu.same b hb (fun f hf => by cases hf)⟩, h1, ?_⟩
  have h4 := h3.has _ (List.mem_cons_self ..)
  refine (h4.1 y (List.mem_cons_self ..)).fp (fun i hi => ?_)
  obtain ⟨h5, h6⟩ := h4.2 i hi
  rcases h6 with ⟨f, hf, _⟩ | h6
  · cases hf
  · exact ⟨h6, h5⟩

set_option maxHeartbeats 1000000 in
theorem k_PledgeBack (l : List ClassV) (A : Option Addr) (c : Nat) (x : ItemV) (s : ByteArray) (mx : Int) (w : World) (hl : Rd w 4 encCl A l) (hgc : ∀ c ∈ l, GoodC w c) (hgx : GoodI w x) (hss : s.size ≤ 9223372036854775807) (hm0 : Gl w 0 [.int .i64 mx]) : Calls Tryz.prog 4 #[.slice A l.length c, evI x, .string s] w (fun e w' => e = .returned (.bool true) ∧ Grow w w') := by
  refine enter_pure (args := [.slice A l.length c, evI x, .string s]) [sl (fun b => b < w.heap.size) 4 encCl A l, gl 0 [.int .i64 mx]] Tryz.func4 rfl (by rw [Tryz.ntmps4]; simp) (fun g hg => by
    simp only [List.mem_cons, List.mem_nil_iff, or_false] at hg
    rcases hg with rfl | rfl
    · exact ⟨hl, fun _ h => h⟩
    · exact ⟨hm0.1, fun i hi => by have hi : i = 0 := hi; subst hi; exact hm0.2⟩) ?_
  refine cj_seq (cj_region ?_)
  refine oj_box rfl rfl rfl (fun b4 => ?_)
  refine oj_step (y_assign rfl) rfl rfl rfl ?_
  refine oj_nil ?_
  refine ej_th (cj_seq ?_)
  refine cj_regionG ?_
  refine gj_step (y_move rfl) rfl rfl rfl (gj_step (y_loadN Tryz.isAgg26 Tryz.sizeOf26 rfl) rfl rfl rfl (?_))
  refine gj_step (y_call Tryz.call6 rfl (fun w hp => k_Print l A c x w hp.rd (fun q hq => (hgc q hq).mono hp.below) (hgx.mono hp.below))) rfl rfl rfl ?_
  refine gj_step (y_move rfl) rfl rfl rfl (gj_step (y_extract rfl rfl) rfl rfl rfl (gj_step (y_extract rfl rfl) rfl rfl rfl (gj_step (y_assign rfl) rfl rfl rfl (gj_step (y_assign rfl) rfl rfl rfl (?_)))))
  refine gj_nil ?_
  refine ej_th (cj_seq (cj_seq ?_))
  refine cj_regionG (gj_step (y_move rfl) rfl rfl rfl (gj_step (y_eql rfl rfl) rfl rfl rfl (gj_nil ?_)))
  refine ej_th ?_
  refine cj_cond rfl (fun h19 => ?_) (fun h19 => ?_)
  · have h19b := h19
    try simp only [sxb] at h19
    have hok : askIOk l [x] = true := askIE_ok (by simp [h19])
    refine cj_seq (cj_region ?_)
    refine oj_step (y_move rfl) rfl rfl rfl ?_
    refine oj_step (y_move rfl) rfl rfl rfl ?_
    refine oj_call (X := { z : ItemV × Int × Nat × Nat // PrsR l (PrnT l x) z.1 z.2.1 }) (fun z => .tuple #[evI z.1.1, .int .i64 z.1.2.1]) (fun _ => []) (fun z => [itF (fun i => z.1.2.2.1 ≤ i ∧ i < z.1.2.2.2) [z.1.1]]) Tryz.call8 rfl (fun w1 hp => (k_ParseS l A c (PrnT l x) mx w1 hp.rd (fun q hq => (hgc q hq).mono hp.below) (by have h9 := prn_size hok; omega) hp.glo).mono fun e w2 ⟨z, E2, he, hg, hz, hG⟩ => ⟨⟨(z, E2, w1.heap.size, w2.heap.size), hz⟩, he, hg, by simp, by simp, fun f hf => by
      rw [List.mem_singleton.1 hf]
      exact ⟨fun z hz => by rw [List.mem_singleton.1 hz]; exact hG, fun i hi => ⟨hi.1, hi.2, by simp⟩⟩⟩) rfl ?_
    rintro ⟨⟨y, E, n1, n2⟩, hy⟩
    dsimp only [List.cons_append, List.nil_append] at hy ⊢
    refine oj_step (y_move rfl) rfl rfl rfl ?_
    refine oj_step (y_extract rfl rfl) rfl rfl rfl ?_
    refine oj_step (y_extract rfl rfl) rfl rfl rfl ?_
    refine oj_alloc Tryz.zeroValue26 rfl rfl (fun b9 => ?_)
    refine oj_store rfl rfl rfl rfl Tryz.sizeOf26 rfl ?_
    refine oj_step (y_assign rfl) rfl rfl rfl ?_
    refine oj_nil ?_
    refine ej_th (cj_seq ?_)
    obtain ⟨rfl, hpl⟩ := prs_print hok hy
    refine cj_regionG ?_
    refine gj_step (y_move rfl) rfl rfl rfl (gj_step (y_neq rfl rfl) rfl rfl rfl (gj_step (y_move rfl) rfl rfl rfl (?_)))
    refine gj_g 4 28 32 rfl rfl rfl rfl (fun hg28 => gj_yes rfl rfl rfl (y_loadN Tryz.isAgg26 Tryz.sizeOf26 rfl) rfl rfl (gj_yes rfl rfl rfl (y_loadN Tryz.isAgg26 Tryz.sizeOf26 rfl) rfl rfl (gj_yes rfl rfl rfl (y_call Tryz.call10 rfl (fun w hp => by
      have h1 : GoodI w y := hp_it hp (fun i => n1 ≤ i ∧ i < n2) y
      exact k_SameItems y x w h1 (hgx.mono hp.below) hpl (by rw [hpl]; exact ask_dep hok))) rfl rfl (gj_yes rfl rfl rfl (y_not rfl) rfl rfl (gj_nil rfl))))) ?_
    refine gj_step (y_or rfl rfl rfl) rfl rfl rfl (?_)
    refine gj_nil ?_
    refine ej_th ?_
    refine cj_cond rfl (fun h33 => ?_) (fun h33 => ?_)
    · exact absurd h33 (by simp)
    · have h33b := h33
      try simp only [sxb] at h33
      refine cj_skip (ej_th (cj_seq (cj_region ?_)))
      refine oj_step (y_move rfl) rfl rfl rfl ?_
      refine oj_step (y_move rfl) rfl rfl rfl ?_
      refine oj_call (X := { z : ItemV × Int × Nat × Nat // PrsR l s z.1 z.2.1 }) (fun z => .tuple #[evI z.1.1, .int .i64 z.1.2.1]) (fun _ => []) (fun z => [itF (fun i => z.1.2.2.1 ≤ i ∧ i < z.1.2.2.2) [z.1.1]]) Tryz.call8 rfl (fun w1 hp => (k_ParseS l A c s mx w1 hp.rd (fun q hq => (hgc q hq).mono hp.below) hss hp.glo).mono fun e w2 ⟨z, E2, he, hg, hz, hG⟩ => ⟨⟨(z, E2, w1.heap.size, w2.heap.size), hz⟩, he, hg, by simp, by simp, fun f hf => by
        rw [List.mem_singleton.1 hf]
        exact ⟨fun z hz => by rw [List.mem_singleton.1 hz]; exact hG, fun i hi => ⟨hi.1, hi.2, by simp⟩⟩⟩) rfl ?_
      rintro ⟨⟨z, F, m1, m2⟩, hz⟩
      dsimp only [List.cons_append, List.nil_append] at hz ⊢
      refine oj_step (y_move rfl) rfl rfl rfl ?_
      refine oj_step (y_extract rfl rfl) rfl rfl rfl ?_
      refine oj_step (y_extract rfl rfl) rfl rfl rfl ?_
      refine oj_alloc Tryz.zeroValue26 rfl rfl (fun b11 => ?_)
      refine oj_store rfl rfl rfl rfl Tryz.sizeOf26 rfl ?_
      refine oj_step (y_assign rfl) rfl rfl rfl ?_
      refine oj_nil ?_
      refine ej_th (cj_seq (cj_seq ?_))
      refine cj_regionG (gj_step (y_move rfl) rfl rfl rfl (gj_step (y_neq rfl rfl) rfl rfl rfl (gj_nil ?_)))
      refine ej_th ?_
      refine cj_cond rfl (fun h43 => ?_) (fun h43 => ?_)
      · have h43b := h43
        try simp only [sxb] at h43
        have hz0 := prs_no hz (by simpa using h43)
        subst hz0
        refine cj_seq ?_
        refine cj_regionG ?_
        refine gj_step (y_fa0 fa26_0 rfl) rfl rfl rfl (gj_step (y_load1 Tryz.isAgg9 rfl rfl) rfl rfl rfl (gj_step (y_eqlS rfl rfl) rfl rfl rfl (gj_step (y_move rfl) rfl rfl rfl (?_))))
        refine gj_g 4 47 51 rfl rfl rfl rfl (fun hg47 => gj_yes rfl rfl rfl (y_fa fa26_1 rfl) rfl rfl (gj_yes rfl rfl rfl (y_load1 Tryz.isAgg23 rfl rfl) rfl rfl (gj_yes rfl rfl rfl (y_lenA Tryz.underlying23 rfl) rfl rfl (gj_yes rfl rfl rfl (y_eql rfl rfl) rfl rfl (gj_nil rfl))))) ?_
        refine gj_step (y_and rfl rfl rfl) rfl rfl rfl (gj_step (y_move rfl) rfl rfl rfl (?_))
        refine gj_g 4 53 57 rfl rfl rfl rfl (fun hg53 => gj_yes rfl rfl rfl (y_fa fa26_2 rfl) rfl rfl (gj_yes rfl rfl rfl (y_load1 Tryz.isAgg24 rfl rfl) rfl rfl (gj_yes rfl rfl rfl (y_lenA Tryz.underlying24 rfl) rfl rfl (gj_yes rfl rfl rfl (y_eql rfl rfl) rfl rfl (gj_nil rfl))))) ?_
        refine gj_step (y_and rfl rfl rfl) rfl rfl rfl (gj_step (y_move rfl) rfl rfl rfl (?_))
        refine gj_g 1 59 60 rfl rfl rfl rfl (fun hg59 => gj_yes rfl rfl rfl (y_call Tryz.call11 rfl (fun w hp => k_works w)) rfl rfl (gj_nil rfl)) ?_
        refine gj_step (y_and rfl rfl rfl) rfl rfl rfl (gj_step (y_assign rfl) rfl rfl rfl (?_))
        refine gj_nil ?_
        refine ej_th (cj_ret (ej_then_ret ?_))
        refine ej_ret1 rfl Tryz.results4 rfl (fun w' hp => ⟨?_, hp.below⟩)
        first | rfl | (rw [ha0, hpr, show (s == s) = true by rw [bytes_beq]; exact decide_eq_true rfl]; rfl)
      · have h43b := h43
        try simp only [sxb] at h43
        have hF : F = 0 := by simpa using h43
        subst hF
        obtain ⟨hok2, hpr⟩ := prs_back hz
        have ha0 : askIE l [z] = 0 := askIE_0 hok2
        refine cj_skip (ej_th (cj_seq ?_))
        refine cj_regionG ?_
        refine gj_step (y_move rfl) rfl rfl rfl (gj_step (y_loadN Tryz.isAgg26 Tryz.sizeOf26 rfl) rfl rfl rfl (?_))
        refine gj_step (y_call Tryz.call6 rfl (fun w hp => by
          have h1 : GoodI w z := hp_it hp (fun i => m1 ≤ i ∧ i < m2) z
          exact k_Print l A c z w hp.rd (fun q hq => (hgc q hq).mono hp.below) h1)) rfl rfl rfl ?_
        refine gj_step (y_move rfl) rfl rfl rfl (gj_step (y_extract rfl rfl) rfl rfl rfl (gj_step (y_extract rfl rfl) rfl rfl rfl (gj_step (y_assign rfl) rfl rfl rfl (gj_step (y_assign rfl) rfl rfl rfl (?_)))))
        refine gj_nil ?_
        refine ej_th (cj_seq ?_)
        refine cj_regionG ?_
        refine gj_step (y_move rfl) rfl rfl rfl (gj_step (y_eql rfl rfl) rfl rfl rfl (gj_step (y_move rfl) rfl rfl rfl (?_)))
        refine gj_g 3 70 73 rfl rfl rfl rfl (fun hg70 => gj_yes rfl rfl rfl (y_move rfl) rfl rfl (gj_yes rfl rfl rfl (y_move rfl) rfl rfl (gj_yes rfl rfl rfl (y_eqlS rfl rfl) rfl rfl (gj_nil rfl)))) ?_
        refine gj_step (y_and rfl rfl rfl) rfl rfl rfl (gj_step (y_move rfl) rfl rfl rfl (?_))
        refine gj_g 1 75 76 rfl rfl rfl rfl (fun hg75 => gj_yes rfl rfl rfl (y_call Tryz.call11 rfl (fun w hp => k_works w)) rfl rfl (gj_nil rfl)) ?_
        refine gj_step (y_and rfl rfl rfl) rfl rfl rfl (gj_step (y_assign rfl) rfl rfl rfl (?_))
        refine gj_nil ?_
        refine ej_th (cj_ret ?_)
        refine ej_ret1 rfl Tryz.results4 rfl (fun w' hp => ⟨?_, hp.below⟩)
        first | rfl | (rw [ha0, hpr, show (s == s) = true by rw [bytes_beq]; exact decide_eq_true rfl]; rfl)
  · have h19b := h19
    try simp only [sxb] at h19
    have hno : PrnT l x = ⟨#[]⟩ := by
      have h9 : askIOk l [x] = false := askIE_no (by simp [h19])
      rw [PrnT, h9]; rfl
    refine cj_seq ?_
    refine cj_regionG (gj_step (y_move rfl) rfl rfl rfl (gj_step (y_neqS rfl rfl) rfl rfl rfl (gj_nil ?_)))
    refine ej_th ?_
    refine cj_cond rfl (fun h35 => ?_) (fun h35 => ?_)
    · rw [hno] at h35
      exact absurd h35 (by decide)
    · have h35b := h35
      try simp only [sxb] at h35
      refine cj_skip (ej_th (cj_seq (cj_region ?_)))
      refine oj_step (y_move rfl) rfl rfl rfl ?_
      refine oj_step (y_move rfl) rfl rfl rfl ?_
      refine oj_call (X := { z : ItemV × Int × Nat × Nat // PrsR l s z.1 z.2.1 }) (fun z => .tuple #[evI z.1.1, .int .i64 z.1.2.1]) (fun _ => []) (fun z => [itF (fun i => z.1.2.2.1 ≤ i ∧ i < z.1.2.2.2) [z.1.1]]) Tryz.call8 rfl (fun w1 hp => (k_ParseS l A c s mx w1 hp.rd (fun q hq => (hgc q hq).mono hp.below) hss hp.glo).mono fun e w2 ⟨z, E2, he, hg, hz, hG⟩ => ⟨⟨(z, E2, w1.heap.size, w2.heap.size), hz⟩, he, hg, by simp, by simp, fun f hf => by
        rw [List.mem_singleton.1 hf]
        exact ⟨fun z hz => by rw [List.mem_singleton.1 hz]; exact hG, fun i hi => ⟨hi.1, hi.2, by simp⟩⟩⟩) rfl ?_
      rintro ⟨⟨z, F, m1, m2⟩, hz⟩
      dsimp only [List.cons_append, List.nil_append] at hz ⊢
      refine oj_step (y_move rfl) rfl rfl rfl ?_
      refine oj_step (y_extract rfl rfl) rfl rfl rfl ?_
      refine oj_step (y_extract rfl rfl) rfl rfl rfl ?_
      refine oj_alloc Tryz.zeroValue26 rfl rfl (fun b11 => ?_)
      refine oj_store rfl rfl rfl rfl Tryz.sizeOf26 rfl ?_
      refine oj_step (y_assign rfl) rfl rfl rfl ?_
      refine oj_nil ?_
      refine ej_th (cj_seq (cj_seq ?_))
      refine cj_regionG (gj_step (y_move rfl) rfl rfl rfl (gj_step (y_neq rfl rfl) rfl rfl rfl (gj_nil ?_)))
      refine ej_th ?_
      refine cj_cond rfl (fun h43 => ?_) (fun h43 => ?_)
      · have h43b := h43
        try simp only [sxb] at h43
        have hz0 := prs_no hz (by simpa using h43)
        subst hz0
        refine cj_seq ?_
        refine cj_regionG ?_
        refine gj_step (y_fa0 fa26_0 rfl) rfl rfl rfl (gj_step (y_load1 Tryz.isAgg9 rfl rfl) rfl rfl rfl (gj_step (y_eqlS rfl rfl) rfl rfl rfl (gj_step (y_move rfl) rfl rfl rfl (?_))))
        refine gj_g 4 47 51 rfl rfl rfl rfl (fun hg47 => gj_yes rfl rfl rfl (y_fa fa26_1 rfl) rfl rfl (gj_yes rfl rfl rfl (y_load1 Tryz.isAgg23 rfl rfl) rfl rfl (gj_yes rfl rfl rfl (y_lenA Tryz.underlying23 rfl) rfl rfl (gj_yes rfl rfl rfl (y_eql rfl rfl) rfl rfl (gj_nil rfl))))) ?_
        refine gj_step (y_and rfl rfl rfl) rfl rfl rfl (gj_step (y_move rfl) rfl rfl rfl (?_))
        refine gj_g 4 53 57 rfl rfl rfl rfl (fun hg53 => gj_yes rfl rfl rfl (y_fa fa26_2 rfl) rfl rfl (gj_yes rfl rfl rfl (y_load1 Tryz.isAgg24 rfl rfl) rfl rfl (gj_yes rfl rfl rfl (y_lenA Tryz.underlying24 rfl) rfl rfl (gj_yes rfl rfl rfl (y_eql rfl rfl) rfl rfl (gj_nil rfl))))) ?_
        refine gj_step (y_and rfl rfl rfl) rfl rfl rfl (gj_step (y_move rfl) rfl rfl rfl (?_))
        refine gj_g 1 59 60 rfl rfl rfl rfl (fun hg59 => gj_yes rfl rfl rfl (y_call Tryz.call11 rfl (fun w hp => k_works w)) rfl rfl (gj_nil rfl)) ?_
        refine gj_step (y_and rfl rfl rfl) rfl rfl rfl (gj_step (y_assign rfl) rfl rfl rfl (?_))
        refine gj_nil ?_
        refine ej_th (cj_ret (ej_then_ret ?_))
        refine ej_ret1 rfl Tryz.results4 rfl (fun w' hp => ⟨?_, hp.below⟩)
        first | rfl | (rw [ha0, hpr, show (s == s) = true by rw [bytes_beq]; exact decide_eq_true rfl]; rfl)
      · have h43b := h43
        try simp only [sxb] at h43
        have hF : F = 0 := by simpa using h43
        subst hF
        obtain ⟨hok2, hpr⟩ := prs_back hz
        have ha0 : askIE l [z] = 0 := askIE_0 hok2
        refine cj_skip (ej_th (cj_seq ?_))
        refine cj_regionG ?_
        refine gj_step (y_move rfl) rfl rfl rfl (gj_step (y_loadN Tryz.isAgg26 Tryz.sizeOf26 rfl) rfl rfl rfl (?_))
        refine gj_step (y_call Tryz.call6 rfl (fun w hp => by
          have h1 : GoodI w z := hp_it hp (fun i => m1 ≤ i ∧ i < m2) z
          exact k_Print l A c z w hp.rd (fun q hq => (hgc q hq).mono hp.below) h1)) rfl rfl rfl ?_
        refine gj_step (y_move rfl) rfl rfl rfl (gj_step (y_extract rfl rfl) rfl rfl rfl (gj_step (y_extract rfl rfl) rfl rfl rfl (gj_step (y_assign rfl) rfl rfl rfl (gj_step (y_assign rfl) rfl rfl rfl (?_)))))
        refine gj_nil ?_
        refine ej_th (cj_seq ?_)
        refine cj_regionG ?_
        refine gj_step (y_move rfl) rfl rfl rfl (gj_step (y_eql rfl rfl) rfl rfl rfl (gj_step (y_move rfl) rfl rfl rfl (?_)))
        refine gj_g 3 70 73 rfl rfl rfl rfl (fun hg70 => gj_yes rfl rfl rfl (y_move rfl) rfl rfl (gj_yes rfl rfl rfl (y_move rfl) rfl rfl (gj_yes rfl rfl rfl (y_eqlS rfl rfl) rfl rfl (gj_nil rfl)))) ?_
        refine gj_step (y_and rfl rfl rfl) rfl rfl rfl (gj_step (y_move rfl) rfl rfl rfl (?_))
        refine gj_g 1 75 76 rfl rfl rfl rfl (fun hg75 => gj_yes rfl rfl rfl (y_call Tryz.call11 rfl (fun w hp => k_works w)) rfl rfl (gj_nil rfl)) ?_
        refine gj_step (y_and rfl rfl rfl) rfl rfl rfl (gj_step (y_assign rfl) rfl rfl rfl (?_))
        refine gj_nil ?_
        refine ej_th (cj_ret ?_)
        refine ej_ret1 rfl Tryz.results4 rfl (fun w' hp => ⟨?_, hp.below⟩)
        first | rfl | (rw [ha0, hpr, show (s == s) = true by rw [bytes_beq]; exact decide_eq_true rfl]; rfl)

end Go.Proofs.YtlfbghkcfmcnlaaGreatDoor
namespace Go.Proofs.YtlfbghkcfmcnlaaGreatDoor
open Go.Sx Go.RowKit
set_option maxRecDepth 20000
theorem u8_beq {a b : UInt8} (h : (((a.toNat : Nat) : Int) == ((b.toNat : Nat) : Int)) = true) : a = b := by
  have h1 : ((a.toNat : Nat) : Int) = (b.toNat : Nat) := by simpa using h
  exact UInt8.toNat_inj.1 (by omega)
theorem u8_bne {a b : UInt8} (h : (((a.toNat : Nat) : Int) == ((b.toNat : Nat) : Int)) = false) : a ≠ b := fun e => by rw [e] at h; simp at h
theorem ow_le {α : Type} {e sz c : Nat} {enc : α → List Value} {A : Option Addr} {xs : List α} {w : World} (h : (ow e sz enc A c xs).P w) : xs.length ≤ c := by
  rcases h.2 with ⟨h1, h2⟩ | ⟨g, cap, cur, h1, _, _, h2, _⟩
  · omega
  · injection h1 with _ _ h3
    omega

theorem k_Cut (s : ByteArray) (q : UInt8) (w : World) (hss : s.size ≤ 70000) : Calls Tryz.prog 37 #[.string s, .int .u8 (q.toNat : Nat)] w (fun e w' => ∃ (A : Option Addr) (c : Nat), e = .returned (.slice A (cutT q s).length c) ∧ Grow w w' ∧ Res w w' 1 enStr A (cutT q s) ∧ (cutT q s).length ≤ c) := by
  refine enter_pure (args := [.string s, .int .u8 (q.toNat : Nat)]) [] Tryz.func37 rfl (by rw [Tryz.ntmps37]; simp) (by simp) ?_
  refine cj_seq ?_
  refine cj_regionG (gj_step (y_assign rfl) rfl rfl rfl (gj_nil ?_))
  refine ej_th (cj_seq (cj_region ?_))
  refine oj_buildSlice (cs := []) [] Tryz.underlying23 Tryz.sizeOf9 Tryz.zeroValue9 rfl rfl (by kernel_rfl) (by kernel_rfl) rfl (fun b8 => ?_)
  refine oj_litOw (b := b8) (e := 9) (c := 0) (sz := 1) (enc := enStr) ([] : List ByteArray) rfl rfl rfl (by unfold maxLen; simp) ?_
  refine oj_step (y_assign rfl) rfl rfl rfl ?_
  refine oj_nil ?_
  refine ej_th (cj_seq ?_)
  refine cj_regionG (gj_step (y_assign rfl) rfl rfl rfl (gj_nil ?_))
  refine ej_th (cj_seq (cj_seq ?_))
  refine cj_regionG (gj_step (y_assign rfl) rfl rfl rfl (gj_nil ?_))
  refine ej_th (cj_block ?_)
  refine cj_lpi (X := Nat × Nat × Option Addr × Nat × List ByteArray) [(0, _), (1, _), (4, _)] (fun ⟨i, b0, A1, c1, out⟩ => (b0 ≤ i ∧ i ≤ s.size) ∧ out.length ≤ i ∧ cutT q s = out ++ cutF q s b0 i) (fun ⟨i, b0, A1, c1, out⟩ => [(5, .slice A1 out.length c1), (6, .int .i64 (b0 : Nat)), (7, .int .i64 (i : Nat))]) (fun ⟨i, b0, A1, c1, out⟩ => [ow 9 1 enStr A1 c1 out]) (fun ⟨i, b0, A1, c1, out⟩ => []) (fun ⟨i, b0, A1, c1, out⟩ => s.size - i) (0, 0, some ⟨b8, 0, none⟩, 0, []) (⟨⟨Nat.le_refl _, Nat.zero_le _⟩, Nat.zero_le _, (cutF_0 q s).symm⟩) ⟨rfl, rfl, rfl, rfl, rfl, rfl, trivial⟩ ?_
  rintro ⟨i, b0, A1, c1, out⟩ ⟨hi, hol, hcf⟩
  dsimp only [List.cons_append, List.nil_append]
  refine cj_seq (cj_seq ?_)
  refine cj_regionG (gj_step (y_move rfl) rfl rfl rfl (gj_step (y_move rfl) rfl rfl rfl (gj_step (y_lenS Tryz.underlying9 rfl) rfl rfl rfl (gj_step (y_lss rfl rfl) rfl rfl rfl (gj_nil ?_)))))
  refine ej_th ?_
  refine cj_cond rfl (fun h12 => ?_) (fun h12 => ?_)
  · have h12b := h12
    try simp only [sxb] at h12
    obtain ⟨bi, hbi⟩ : ∃ bi, s[i]? = some bi := ⟨_, getElem?_pos s i (by omega)⟩
    refine cj_skip (ej_th (cj_seq (cj_block (cj_seq ?_))))
    refine cj_regionG (gj_step (y_move rfl) rfl rfl rfl (gj_step (y_move rfl) rfl rfl rfl (gj_step (y_indexS Tryz.underlying9 rfl rfl (by omega) (hbi)) rfl rfl rfl (gj_step (y_move rfl) rfl rfl rfl (gj_step (y_eql rfl rfl) rfl rfl rfl (gj_nil ?_))))))
    refine ej_th ?_
    refine cj_cond rfl (fun h19 => ?_) (fun h19 => ?_)
    · have h19b := h19
      try simp only [sxb] at h19
      have hbq : bi = q := by
        have h9 := u8_beq h19b
        exact h9
      rw [hbq] at hbi
      rw [cutF_hit hbi] at hcf
      refine cj_seq (cj_region ?_)
      refine oj_step (y_move rfl) rfl rfl rfl ?_
      refine oj_step (y_move rfl) rfl rfl rfl ?_
      refine oj_step (y_move rfl) rfl rfl rfl ?_
      refine oj_step (y_move rfl) rfl rfl rfl ?_
      refine oj_step (y_partS Tryz.underlying9 rfl rfl rfl (by omega) (by omega)) rfl rfl rfl ?_
      refine oj_buildSlice (cs := [.string (s.extract b0 i)]) [.string ⟨#[]⟩] Tryz.underlying23 Tryz.sizeOf9 Tryz.zeroValue9 rfl rfl (by kernel_rfl) (by kernel_rfl) rfl (fun b25 => ?_)
      refine oj_append  el23 (fun _ => rfl) enStr_one rfl rfl rfl (reads_lit [s.extract b0 i] (fun _ => rfl) rfl) (by unfold maxLen; simp only [List.length_cons, List.length_nil]; omega) (by simp only [List.length_cons, List.length_nil]; omega) rfl (fun A26 c26 => ?_)
      refine oj_step (y_assign rfl) rfl rfl rfl ?_
      refine oj_nil ?_
      refine ej_th ?_
      refine cj_regionG (gj_step (y_move rfl) rfl rfl rfl (gj_step (y_add rfl rfl (by omega)) rfl rfl rfl (gj_step (y_assign rfl) rfl rfl rfl (gj_nil ?_))))
      refine ej_blk (ej_th ?_)
      refine cj_regionG (gj_step (y_move rfl) rfl rfl rfl (gj_step (y_add rfl rfl (by omega)) rfl rfl rfl (gj_step (y_assign rfl) rfl rfl rfl (gj_nil ?_))))
      exact ej_nx (i + 1, i + 1, A26, c26, out ++ [s.extract b0 i]) (by first | omega | (simp only; omega)) ⟨by first | omega | (simp only; omega), by simp only [List.length_append, List.length_cons, List.length_nil]; omega, by rw [hcf]; simp⟩ ⟨rfl, rfl, rfl, rfl, rfl, rfl, trivial⟩
    · have h19b := h19
      try simp only [sxb] at h19
      have hbq : bi ≠ q := u8_bne h19b
      rw [cutF_miss hbi hbq (by omega)] at hcf
      refine cj_skip (ej_blk (ej_th ?_))
      refine cj_regionG (gj_step (y_move rfl) rfl rfl rfl (gj_step (y_add rfl rfl (by omega)) rfl rfl rfl (gj_step (y_assign rfl) rfl rfl rfl (gj_nil ?_))))
      exact ej_nx (i + 1, b0, A1, c1, out) (by first | omega | (simp only; omega)) ⟨by first | omega | (simp only; omega), by first | omega | (simp only; omega), hcf⟩ ⟨rfl, rfl, rfl, rfl, rfl, rfl, trivial⟩
  · have h12b := h12
    try simp only [sxb] at h12
    have hie : i = s.size := by omega
    rw [hie, cutF_end] at hcf
    refine cj_exit (ej_then_exit (ej_then_exit (ej_blk_hit (ej_th (cj_seq (cj_region ?_))))))
    refine oj_step (y_move rfl) rfl rfl rfl ?_
    refine oj_step (y_move rfl) rfl rfl rfl ?_
    refine oj_step (y_move rfl) rfl rfl rfl ?_
    refine oj_step (y_tailS Tryz.underlying9 rfl rfl (by omega)) rfl rfl rfl ?_
    refine oj_buildSlice (cs := [.string (s.extract b0 s.size)]) [.string ⟨#[]⟩] Tryz.underlying23 Tryz.sizeOf9 Tryz.zeroValue9 rfl rfl (by kernel_rfl) (by kernel_rfl) rfl (fun b33 => ?_)
    refine oj_append  el23 (fun _ => rfl) enStr_one rfl rfl rfl (reads_lit [s.extract b0 s.size] (fun _ => rfl) rfl) (by unfold maxLen; simp only [List.length_cons, List.length_nil]; omega) (by simp only [List.length_cons, List.length_nil]; omega) rfl (fun A34 c34 => ?_)
    refine oj_step (y_assign rfl) rfl rfl rfl ?_
    refine oj_nil ?_
    refine ej_th (cj_ret ?_)
    exact ej_ret1 rfl Tryz.results37 rfl (fun w' hp => ⟨A34, c34, by rw [hcf], hp.below, by rw [hcf]; exact hp.res (fun _ => rfl) (by unfold maxLen; simp only [List.length_append, List.length_cons, List.length_nil]; omega), by rw [hcf]; exact ow_le (hp.own (ow 9 1 enStr A34 c34 (out ++ [s.extract b0 s.size])) (by simp)).1⟩)

end Go.Proofs.YtlfbghkcfmcnlaaGreatDoor
namespace Go.Proofs.YtlfbghkcfmcnlaaGreatDoor
open Go.Sx Go.RowKit
set_option maxRecDepth 20000
theorem k_Cut61 (s : ByteArray) (w : World) (hss : s.size ≤ 70000) : Calls Tryz.prog 37 #[.string s, .int .u8 61] w (fun e w' => ∃ (A : Option Addr) (c : Nat), e = .returned (.slice A (cutT 61 s).length c) ∧ Grow w w' ∧ Res w w' 1 enStr A (cutT 61 s) ∧ (cutT 61 s).length ≤ c) := k_Cut s 61 w hss
theorem k_class2 (l : List ClassV) (A : Option Addr) (c : Nat) (s : ByteArray) (w : World) (hl : Rd w 4 encCl A l) (hgo : gramOk l = true) : Calls Tryz.prog 60 #[.slice A l.length c, .agg #[.string s, .slice none 0 0, .slice none 0 0]] w (fun e w' => e = .returned (.tuple #[evC (clD l s), .bool (clsOf l s).isSome]) ∧ Grow w w') := k_class l A c (.mk s none 0 [] none 0 []) w hl hgo
theorem clsOf_mem {l : List ClassV} {s : ByteArray} {c : ClassV} (h : clsOf l s = some c) : c ∈ l := List.mem_of_find?_eq_some h
theorem clD_ok {l : List ClassV} (hgo : gramOk l = true) (s : ByteArray) {w : World} (hgc : ∀ q ∈ l, GoodC w q) : GoodC w (clD l s) ∧ (clD l s).traits.length ≤ 8 := by
  unfold clD
  cases h : clsOf l s with
  | none => exact ⟨GoodC.zero w, by decide⟩
  | some c => exact ⟨hgc c (clsOf_mem h), (gram_cls hgo c (clsOf_mem h)).few⟩

set_option maxHeartbeats 6400000 in
theorem k_rread1 (l : List ClassV) (Ag : Option Addr) (cg : Nat) (T : List ByteArray) (A : Option Addr) (c d : Nat) (w : World) (hgo : gramOk l = true) (hl : Rd w 4 encCl Ag l) (hgc : ∀ q ∈ l, GoodC w q) (hT : Rd w 1 enStr A T) (hTc : T.length ≤ c) (hsz : ∀ u ∈ T, u.size ≤ 65536) (hN : T.length ≤ 70000) (hd4 : d ≤ 4) (ih : ∀ d1, d1 + 1 = d → ∀ (T1 : List ByteArray) (A1 : Option Addr) (c1 : Nat) (w1 : World), Rd w1 4 encCl Ag l → (∀ q ∈ l, GoodC w1 q) → Rd w1 1 enStr A1 T1 → T1.length ≤ c1 → (∀ u ∈ T1, u.size ≤ 65536) → T1.length ≤ 70000 → Calls Tryz.prog 36 #[.slice Ag l.length cg, .slice A1 T1.length c1, .int .i64 (4 - (d1 : Int))] w1 (fun e w' => ∃ (x : ItemV) (n : Nat), e = .returned (.tuple #[evI x, .int .i64 (n : Nat)]) ∧ Grow w1 w' ∧ (x.pl, n) = refI l d1 T1 ∧ GoodF (fun i => w1.heap.size ≤ i ∧ i < w'.heap.size) w' x)) : Calls Tryz.prog 36 #[.slice Ag l.length cg, .slice A T.length c, .int .i64 (4 - (d : Int))] w (fun e w' => ∃ (x : ItemV) (n : Nat), e = .returned (.tuple #[evI x, .int .i64 (n : Nat)]) ∧ Grow w w' ∧ (x.pl, n) = refI l d T ∧ GoodF (fun i => w.heap.size ≤ i ∧ i < w'.heap.size) w' x) := by
  refine enter_pure (args := [.slice Ag l.length cg, .slice A T.length c, .int .i64 (4 - (d : Int))]) [sl (fun b => b < w.heap.size) 4 encCl Ag l, sl (fun b => b < w.heap.size) 1 enStr A T] Tryz.func36 rfl (by rw [Tryz.ntmps36]; simp) (fun g hg => by simp only [List.mem_cons, List.mem_nil_iff, or_false] at hg; rcases hg with rfl | rfl; exact ⟨hl, fun _ h => h⟩; exact ⟨hT, fun _ h => h⟩) ?_
  refine cj_seq (cj_region ?_)
  refine oj_alloc Tryz.zeroValue26 rfl rfl (fun b6 => ?_)
  refine oj_step (y_assign rfl) rfl rfl rfl ?_
  refine oj_nil ?_
  refine ej_th (cj_seq (cj_seq ?_))
  refine cj_regionG (gj_step (y_move rfl) rfl rfl rfl (gj_step (y_lenA Tryz.underlying23 rfl) rfl rfl rfl (gj_step (y_eql rfl rfl) rfl rfl rfl (gj_step (y_move rfl) rfl rfl rfl (gj_g 2 20 22 rfl rfl rfl rfl (fun hg20 => gj_yes rfl rfl rfl (y_move rfl) rfl rfl (gj_yes rfl rfl rfl (y_gtr rfl rfl) rfl rfl (gj_nil rfl))) (gj_step (y_or rfl rfl rfl) rfl rfl rfl (gj_nil ?_)))))))
  refine ej_th ?_
  refine cj_cond rfl (fun h23 => ?_) (fun h23 => ?_)
  · have h23b := h23
    try simp only [sxb] at h23
    have hrf : refI l d T = (zIV.pl, T.length) := by
      cases d with
      | zero => rw [refI]; rfl
      | succ d =>
        cases T with
        | nil => rw [refI]; rfl
        | cons s r =>
          simp at h23b
          omega
    refine cj_seq (cj_region ?_)
    refine oj_step (y_build st26 rfl rfl) rfl rfl rfl ?_
    refine oj_step (y_move rfl) rfl rfl rfl ?_
    refine oj_step (y_lenA Tryz.underlying23 rfl) rfl rfl rfl ?_
    refine oj_store rfl rfl rfl rfl Tryz.sizeOf26 rfl ?_
    refine oj_step (y_assign rfl) rfl rfl rfl ?_
    refine oj_nil ?_
    refine ej_th (cj_ret (ej_then_ret ?_))
    exact ej_retC2 rfl Tryz.results36 rfl (y_loadN Tryz.isAgg26 Tryz.sizeOf26 rfl) rfl (fun w' hp => ⟨zIV, T.length, by first | rfl | (rw [← hsl]; rfl), hp.below, hrf.symm, good_zero _ _⟩)
  · have h23b := h23
    try simp only [sxb] at h23
    obtain ⟨s, r, rfl⟩ : ∃ s r, T = s :: r := by
      cases T with
      | nil => simp at h23b
      | cons s r => exact ⟨s, r, rfl⟩
    have hsr : (s :: r).length = r.length + 1 := rfl
    obtain ⟨d, rfl⟩ : ∃ d1, d = d1 + 1 := by
      cases d with
      | zero => simp at h23b
      | succ d => exact ⟨d, rfl⟩
    refine cj_skip (ej_th (cj_seq (cj_region ?_)))
    refine oj_step (y_move rfl) rfl rfl rfl ?_
    refine oj_step (y_ixR (i := 0) (reads_sl (xs := s :: r)) Tryz.underlying23 Tryz.sizeOf9 rfl rfl ⟨by omega, by rw [List.length_cons]; omega⟩) rfl rfl rfl ?_
    refine oj_step (y_ld0 (reads_sl) Tryz.isAgg9 rfl (rfl) rfl) rfl rfl rfl ?_
    refine oj_step (y_build (cs := [.string s, .slice none 0 0, .slice none 0 0]) st26 rfl rfl) rfl rfl rfl ?_
    refine oj_alloc Tryz.zeroValue26 rfl rfl (fun b8 => ?_)
    refine oj_store rfl rfl rfl rfl Tryz.sizeOf26 rfl ?_
    refine oj_nil ?_
    refine ej_th (cj_seq (cj_region ?_))
    refine oj_step (y_move rfl) rfl rfl rfl ?_
    refine oj_step (y_loadN Tryz.isAgg26 Tryz.sizeOf26 rfl) rfl rfl rfl ?_
    refine oj_step (y_call Tryz.call60 rfl (fun w hp => k_class2 l Ag cg s w hp.rd hgo)) rfl rfl rfl ?_
    refine oj_step (y_move rfl) rfl rfl rfl ?_
    refine oj_step (y_extract rfl rfl) rfl rfl rfl ?_
    refine oj_step (y_extract rfl rfl) rfl rfl rfl ?_
    refine oj_alloc Tryz.zeroValue37 rfl rfl (fun b9 => ?_)
    refine oj_store rfl rfl rfl rfl Tryz.sizeOf37 rfl ?_
    refine oj_step (y_assign rfl) rfl rfl rfl ?_
    refine oj_nil ?_
    refine ej_th (cj_seq ?_)
    obtain ⟨hgcc, hc8⟩ := clD_ok hgo s hgc
    have hend := fun ss i => refI_end (l := l) (d := d) (i := i) (s := s) (r := r) (ss := ss)
    have hopn := fun ss i => refI_open (l := l) (d := d) (i := i) (s := s) (r := r) (ss := ss)
    generalize clD l s = cc at *
    refine cj_region ?_
    refine oj_step (y_fa fa37_1 rfl) rfl rfl rfl ?_
    refine oj_step (y_load1 Tryz.isAgg35 rfl rfl) rfl rfl rfl ?_
    refine oj_step (y_lenA Tryz.underlying35 rfl) rfl rfl rfl ?_
    refine oj_makeSlice1 (n := cc.traits.length) Tryz.underlying23 Tryz.type9 rfl rfl rfl rfl rfl (by show 16 * _ ≤ _; omega) (by omega) rfl (fun b40 => ?_)
    refine oj_litOw (b := b40) (e := 9) (c := cc.traits.length) (sz := 1) (enc := enStr) (List.replicate cc.traits.length (⟨#[]⟩ : ByteArray)) (by simp) (by generalize cc.traits.length = n; induction n with | zero => rfl | succ n ih => rw [List.replicate_succ, List.flatMap_cons, ih, List.replicate_succ]; rfl) (by simp) (by unfold maxLen; omega) ?_
    refine oj_step (y_fa fa26_1 rfl) rfl rfl rfl ?_
    refine oj_store rfl rfl rfl rfl Tryz.sizeOf23 rfl ?_
    refine oj_nil ?_
    refine ej_th (cj_seq ?_)
    refine cj_regionG (gj_step (y_assign rfl) rfl rfl rfl (gj_nil ?_))
    refine ej_th (cj_seq (cj_block ?_))
    refine cj_takes [ow 9 1 enStr (some ⟨b40, 0, none⟩) cc.traits.length (List.replicate cc.traits.length (⟨#[]⟩ : ByteArray)), ownB b9 (cellsB 37 [.string cc.name, .slice cc.At cc.traits.length cc.ct, .slice cc.Ap cc.parts.length cc.cp, .int .i64 cc.most]), ownB b8 (cellsB 26 [.string s, .slice (some ⟨b40, 0, none⟩) cc.traits.length cc.traits.length, .slice none 0 0]), ownB b6 (cellsB 26 [.string ⟨#[]⟩, .slice none 0 0, .slice none 0 0])] ?_
    refine cj_lpi (X := Nat × List ByteArray) [(0, _), (1, _), (2, _), (6, _), (7, _), (8, _), (9, _)] (fun ⟨i, ss⟩ => (1 ≤ i ∧ i ≤ (s :: r).length) ∧ ss.length = cc.traits.length ∧ (∀ u ∈ ss, u.size ≤ 65536) ∧ refS (cc.traits.map (fun t : TraitV => t.name)) (List.replicate cc.traits.length ⟨#[]⟩) r = refS (cc.traits.map (fun t : TraitV => t.name)) ss ((s :: r).drop i)) (fun ⟨i, ss⟩ => [(11, .int .i64 (i : Nat))]) (fun ⟨i, ss⟩ => [ow 9 1 enStr (some ⟨b40, 0, none⟩) cc.traits.length ss, ownB b9 (cellsB 37 [.string cc.name, .slice cc.At cc.traits.length cc.ct, .slice cc.Ap cc.parts.length cc.cp, .int .i64 cc.most]), ownB b8 (cellsB 26 [.string s, .slice (some ⟨b40, 0, none⟩) cc.traits.length cc.traits.length, .slice none 0 0]), ownB b6 (cellsB 26 [.string ⟨#[]⟩, .slice none 0 0, .slice none 0 0])]) (fun ⟨i, ss⟩ => [sl (fun b => b < w.heap.size) 4 encCl Ag l, sl (fun b => b < w.heap.size) 1 enStr A (s :: r)]) (fun ⟨i, ss⟩ => (s :: r).length - i) (1, List.replicate cc.traits.length ⟨#[]⟩) (⟨⟨Nat.le_refl _, by rw [List.length_cons]; omega⟩, List.length_replicate, fun u hu => by rw [List.eq_of_mem_replicate hu]; decide, rfl⟩) ⟨rfl, rfl, rfl, rfl, rfl, rfl, rfl, rfl, trivial⟩ ?_
    rintro ⟨i, ss⟩ ⟨hi, hsl, hss, hrs⟩
    dsimp only [List.cons_append, List.nil_append]
    refine cj_seq (cj_seq (cj_region ?_))
    refine oj_step (y_move rfl) rfl rfl rfl ?_
    refine oj_step (y_move rfl) rfl rfl rfl ?_
    refine oj_step (y_lenA Tryz.underlying23 rfl) rfl rfl rfl ?_
    refine oj_step (y_lss rfl rfl) rfl rfl rfl ?_
    refine oj_step (y_move rfl) rfl rfl rfl ?_
    apply oj_gW (b := true) [(11, _), (0, _), (1, _), (2, _), (6, _), (7, _), (8, _), (9, _), (42, _), (43, _), (44, _), (45, _), (46, _)] 7 46 53 ⟨rfl, rfl, rfl, rfl, rfl, rfl, rfl, rfl, rfl, rfl, rfl, rfl, rfl, trivial⟩ rfl rfl rfl rfl
    · intro hg46
      refine oj_yesE rfl rfl rfl hg46 ?_
      refine oj_step (y_move rfl) rfl rfl rfl ?_
      refine oj_yesE rfl rfl rfl hg46 ?_
      refine oj_step (y_move rfl) rfl rfl rfl ?_
      refine oj_yesE rfl rfl rfl hg46 ?_
      refine oj_step (y_ixR (reads_sl (xs := s :: r)) Tryz.underlying23 Tryz.sizeOf9 rfl rfl ⟨by omega, by have h9 := hg46; simp at h9; omega⟩) rfl rfl rfl ?_
      refine oj_yesE rfl rfl rfl hg46 ?_
      refine oj_step (y_ld0 (reads_sl) Tryz.isAgg9 rfl ((show (s :: r)[i]? = some (tkD (s :: r) i) from tkD_at (by have h9 := hg46; simp at h9; omega))) rfl) rfl rfl rfl ?_
      refine oj_yesE rfl rfl rfl hg46 ?_
      refine oj_callS (fun A c => .slice A (cutT 61 (tkD (s :: r) i)).length c) 1 enStr (cutT 61 (tkD (s :: r) i)) Tryz.call37 rfl (fun w hp => (k_Cut61 (tkD (s :: r) i) w (by have h9 := tk_size hsz i; omega)).mono fun e w2 ⟨A, c, h1, h2, h3, _⟩ => ⟨A, c, h1, h2, h3⟩) rfl (fun A51 c51 fp51 hfp51 => ?_)
      refine oj_yesE rfl rfl rfl hg46 ?_
      refine oj_step (y_lenA Tryz.underlying23 rfl) rfl rfl rfl ?_
      refine oj_yesE rfl rfl rfl hg46 ?_
      refine oj_step (y_eql rfl rfl) rfl rfl rfl ?_
      exact oj_nil (ej_gW ⟨rfl, rfl, rfl, rfl, rfl, rfl, rfl, rfl, rfl, rfl, rfl, rfl, rfl, rfl, trivial⟩)
    refine oj_step (y_and rfl rfl rfl) rfl rfl rfl ?_
    refine oj_nil ?_
    refine ej_th ?_
    refine cj_cond rfl (fun h54 => ?_) (fun h54 => ?_)
    · have h54b := h54
      try simp only [sxb] at h54
      have hil : i < (s :: r).length := by
        rw [Bool.and_eq_true, decide_eq_true_eq] at h54b
        omega
      obtain ⟨a, b, hab⟩ : ∃ a b, cutT 61 (tkD (s :: r) i) = [a, b] := by
        rw [Bool.and_eq_true] at h54b
        exact two_of h54b.2
      have hbz : b.size ≤ 65536 := by
        have h9 := cutT_sz 61 (tkD (s :: r) i) b (by rw [hab]; simp)
        have h8 := tk_size hsz i
        omega
      refine cj_skip (ej_th (cj_block (cj_seq (cj_region ?_))))
      refine oj_step (y_move rfl) rfl rfl rfl ?_
      refine oj_step (y_move rfl) rfl rfl rfl ?_
      refine oj_step (y_ixR (reads_sl (xs := s :: r)) Tryz.underlying23 Tryz.sizeOf9 rfl rfl ⟨by omega, by omega⟩) rfl rfl rfl ?_
      refine oj_step (y_ld0 (reads_sl) Tryz.isAgg9 rfl ((show (s :: r)[i]? = some (tkD (s :: r) i) from tkD_at hil)) rfl) rfl rfl rfl ?_
      refine oj_callS (fun A c => .slice A ([a, b] : List ByteArray).length c) 1 enStr ([a, b] : List ByteArray) Tryz.call37 rfl (fun w hp => (k_Cut61 (tkD (s :: r) i) w (by have h9 := tk_size hsz i; omega)).mono fun e w2 ⟨A, c, h1, h2, h3, _⟩ => ⟨A, c, by rw [h1, hab], h2, by rw [← hab]; exact h3⟩) rfl (fun A59 c59 fp59 hfp59 => ?_)
      refine oj_step (y_assign rfl) rfl rfl rfl ?_
      refine oj_nil ?_
      refine ej_th (cj_seq (cj_seq ?_))
      refine cj_plan 7 (by kernel_rfl) (by kernel_rfl) ?_
      refine pl_y 0 rfl (y_loadN Tryz.isAgg37 Tryz.sizeOf37 rfl) rfl rfl rfl rfl (by kernel_rfl) ?_
      refine pl_y 2 rfl (y_move rfl) rfl rfl rfl rfl (by kernel_rfl) ?_
      refine pl_y 3 rfl (y_ixR (i := 0) (reads_sl (xs := [a, b])) Tryz.underlying23 Tryz.sizeOf9 rfl rfl ⟨by omega, by simp only [List.length_cons, List.length_nil]; omega⟩) rfl rfl rfl rfl (by kernel_rfl) ?_
      refine pl_y 4 rfl (y_ld0 (reads_sl) Tryz.isAgg9 rfl (rfl) rfl) rfl rfl rfl rfl (by kernel_rfl) ?_
      refine pl_w1 1 (by kernel_rfl) rfl rfl (pl_fire rfl rfl rfl (by kernel_rfl) ?_)
      refine oj_callS (fun A c => .slice A (cc.traits.map (fun t : TraitV => t.name)).length c) 1 enStr (cc.traits.map (fun t : TraitV => t.name)) Tryz.call73 rfl (fun w hp => k_traits cc w (hgcc.mono hp.below) hc8) rfl (fun A61 c61 fp61 hfp61 => ?_)
      refine oj_nil ?_
      refine ej_pl (lt_y (y_ld0 (reads_sl) Tryz.isAgg9 rfl (rfl) rfl) rfl (lt_y (y_ixR (i := 0) (reads_sl (xs := [a, b])) Tryz.underlying23 Tryz.sizeOf9 rfl rfl ⟨by omega, by simp only [List.length_cons, List.length_nil]; omega⟩) rfl (lt_y (y_move rfl) rfl (lt_w (by kernel_rfl) (lt_nil))))) ?_
      refine pl_y 5 rfl (y_call Tryz.call74 rfl (fun w hp => k_SeekText (cc.traits.map (fun t : TraitV => t.name)) A61 c61 a w hp.rd)) rfl rfl rfl rfl (by kernel_rfl) ?_
      refine pl_y 6 rfl (y_assign rfl) rfl rfl rfl rfl (by kernel_rfl) ?_
      refine pl_end (by kernel_rfl) ?_
      refine ej_th (cj_seq ?_)
      refine cj_regionG (gj_step (y_move rfl) rfl rfl rfl (gj_step (y_geq rfl rfl) rfl rfl rfl (gj_nil ?_)))
      refine ej_th ?_
      refine cj_cond rfl (fun h67 => ?_) (fun h67 => ?_)
      · have h67b := h67
        try simp only [sxb] at h67
        have h67c : 0 ≤ firstS a (cc.traits.map (fun t : TraitV => t.name)) 0 := by simpa using h67b
        have hse := setS_yes (ss := ss) (b := b) h67c
        have hfk := firstS_lt a (cc.traits.map (fun t : TraitV => t.name)) 0 h67c
        rw [List.length_map] at hfk
        rw [← hsl]
        refine cj_seq ?_
        refine cj_regionG (gj_step (y_fa fa26_1 rfl) rfl rfl rfl (gj_step (y_load1 Tryz.isAgg23 rfl rfl) rfl rfl rfl (gj_step (y_assign rfl) rfl rfl rfl (gj_nil ?_))))
        refine ej_th (cj_region ?_)
        refine oj_step (y_move rfl) rfl rfl rfl ?_
        refine oj_step (y_move rfl) rfl rfl rfl ?_
        refine oj_step (y_move rfl) rfl rfl rfl ?_
        refine oj_step (y_ixR (i := 1) (reads_sl (xs := [a, b])) Tryz.underlying23 Tryz.sizeOf9 rfl rfl ⟨by omega, by simp only [List.length_cons, List.length_nil]; omega⟩) rfl rfl rfl ?_
        refine oj_step (y_ld0 (reads_sl) Tryz.isAgg9 rfl (rfl) rfl) rfl rfl rfl ?_
        refine oj_step (y_ixR (reads_ow (xs := ss) enStr_len) Tryz.underlying23 Tryz.sizeOf9 rfl rfl ⟨by omega, by omega⟩) rfl rfl rfl ?_
        refine oj_storeE (i := (firstS a (cc.traits.map (fun t : TraitV => t.name)) 0).toNat) (u := b) rfl rfl rfl rfl Tryz.sizeOf9 (fun _ => rfl) (by first | omega | (simp only [List.length_set]; omega) | (simp; omega)) ?_
        refine oj_nil ?_
        refine ej_th ?_
        refine cj_regionG (gj_step (y_move rfl) rfl rfl rfl (gj_step (y_add rfl rfl (by omega)) rfl rfl rfl (gj_step (y_assign rfl) rfl rfl rfl (gj_nil ?_))))
        refine ej_blk ?_
        exact ej_nx (i + 1, ss.set (firstS a (cc.traits.map (fun t : TraitV => t.name)) 0).toNat b) (by first | omega | (simp only; omega)) ⟨by first | omega | (simp only; omega), by rw [List.length_set], fun u hu => by rw [← hse] at hu; exact setS_mem hss hbz u hu, by have h9 := hrs; rw [refS_go hil hab, hse, ← hsl] at h9; exact h9⟩ ⟨rfl, rfl, rfl, rfl, rfl, rfl, rfl, rfl, trivial⟩
      · have h67b := h67
        try simp only [sxb] at h67
        have hse := setS_no (names := (cc.traits.map (fun t : TraitV => t.name))) (a := a) (ss := ss) (b := b) (by simpa using h67b)
        refine cj_skip (ej_th ?_)
        refine cj_regionG (gj_step (y_move rfl) rfl rfl rfl (gj_step (y_add rfl rfl (by omega)) rfl rfl rfl (gj_step (y_assign rfl) rfl rfl rfl (gj_nil ?_))))
        refine ej_blk ?_
        exact ej_nx (i + 1, ss) (by first | omega | (simp only; omega)) ⟨by first | omega | (simp only; omega), hsl, hss, by rw [hrs, refS_go hil hab, hse]⟩ ⟨rfl, rfl, rfl, rfl, rfl, rfl, rfl, rfl, trivial⟩
    · have h54b := h54
      try simp only [sxb] at h54
      have hrs2 : refS (cc.traits.map (fun t : TraitV => t.name)) (List.replicate cc.traits.length ⟨#[]⟩) r = (ss, (s :: r).drop i) := by
        rw [hrs, refS_stop]
        intro hil h2
        rw [h2] at h54b
        simp at h54b
        rw [List.length_cons] at hil
        omega
      refine cj_exit (ej_then_exit (ej_then_exit (ej_blk_hit (ej_th (cj_seq (cj_seq ?_))))))
      refine cj_regionG (gj_step (y_move rfl) rfl rfl rfl (gj_step (y_move rfl) rfl rfl rfl (gj_step (y_lenA Tryz.underlying23 rfl) rfl rfl rfl (gj_step (y_eql rfl rfl) rfl rfl rfl (gj_step (y_move rfl) rfl rfl rfl (gj_g 5 82 87 rfl rfl rfl rfl (fun hg82 => gj_yes rfl rfl rfl (y_move rfl) rfl rfl (gj_yes rfl rfl rfl (y_move rfl) rfl rfl (gj_yes rfl rfl rfl (y_ixR (reads_sl (xs := s :: r)) Tryz.underlying23 Tryz.sizeOf9 rfl rfl ⟨by omega, by have h9 := hg82; simp at h9; omega⟩) rfl rfl (gj_yes rfl rfl rfl (y_ld0 (reads_sl) Tryz.isAgg9 rfl ((show (s :: r)[i]? = some (tkD (s :: r) i) from tkD_at (by have h9 := hg82; simp at h9; omega))) rfl) rfl rfl (gj_yes rfl rfl rfl (y_neqS rfl rfl) rfl rfl (gj_nil rfl)))))) (gj_step (y_or rfl rfl rfl) rfl rfl rfl (gj_nil ?_))))))))
      refine ej_th ?_
      refine cj_cond rfl (fun h88 => ?_) (fun h88 => ?_)
      · have h88b := h88
        try simp only [sxb] at h88
        have hrf : refI l (d + 1) (s :: r) = (.mk s ss [], i) := hend ss i hrs2 (by omega) (by omega) (fun hil h9 => by
          rw [h9] at h88b
          have h8 : (!tOpen == (⟨#[40]⟩ : ByteArray)) = false := by decide
          rw [h8, Bool.or_false, beq_iff_eq] at h88b
          omega)
        refine cj_seq (cj_region ?_)
        refine oj_step (y_loadN Tryz.isAgg26 Tryz.sizeOf26 rfl) rfl rfl rfl ?_
        refine oj_step (y_move rfl) rfl rfl rfl ?_
        refine oj_store rfl rfl rfl rfl Tryz.sizeOf26 rfl ?_
        refine oj_step (y_assign rfl) rfl rfl rfl ?_
        refine oj_nil ?_
        refine ej_th (cj_ret (ej_then_ret ?_))
        exact ej_retC2 rfl Tryz.results36 rfl (y_loadN Tryz.isAgg26 Tryz.sizeOf26 rfl) rfl (fun w' hp => ⟨.mk s (some ⟨b40, 0, none⟩) ss.length ss none 0 [], i, by first | rfl | (rw [← hsl]; rfl), hp.below, (by rw [hrf]; rfl), .mk (hp.res (A := some ⟨b40, 0, none⟩) (e := 9) (c := cc.traits.length) (enc := enStr) (xs := ss) (fun _ => rfl) (by unfold maxLen; omega)) ⟨Nat.zero_le _, fun hn => absurd rfl hn⟩ (by show s.size ≤ _; have h9 := hsz s (List.mem_cons_self ..); omega) (fun u hu => by have h9 := hss u hu; omega) (fun p hp2 => by cases hp2)⟩)
      · have h88b := h88
        try simp only [sxb] at h88
        obtain ⟨hil, hto⟩ : i < (s :: r).length ∧ (tkD (s :: r) i) = tOpen := by
          rw [Bool.or_eq_false_iff] at h88b
          refine ⟨by have h9 := h88b.1; simp at h9; rw [List.length_cons]; omega, ?_⟩
          have h9 := h88b.2
          exact bytes_eq (by simpa using h9)
        have hrf := hopn ss i hrs2 hil hto
        refine cj_skip (ej_th (cj_seq (cj_block ?_)))
        refine cj_ownNil 26 3 encIt ?_
        refine cj_addS (itF (fun _ => False) []) (fun w hp => ⟨fun z hz => (by cases hz), fun i hi => hi.elim⟩) ?_
        refine cj_takes [ow 26 3 encIt none 0 ([] : List ItemV), ow 9 1 enStr (some ⟨b40, 0, none⟩) cc.traits.length ss, ownB b9 (cellsB 37 [.string cc.name, .slice cc.At cc.traits.length cc.ct, .slice cc.Ap cc.parts.length cc.cp, .int .i64 cc.most]), ownB b8 (cellsB 26 [.string s, .slice (some ⟨b40, 0, none⟩) cc.traits.length cc.traits.length, .slice none 0 0]), ownB b6 (cellsB 26 [.string ⟨#[]⟩, .slice none 0 0, .slice none 0 0])] ?_
        obtain ⟨i0, hi0⟩ : ∃ i0, i0 = i := ⟨_, rfl⟩
        rw [← hi0] at hrf
        refine cj_lpi (X := Nat × Nat × Option Addr × Nat × List ItemV × (Nat → Prop)) [(0, _), (1, _), (2, _), (6, _), (7, _), (8, _)] (fun ⟨n, i, A2, c2, ps, fp⟩ => (i ≤ (s :: r).length + d ∧ (s :: r).length ≤ n + i) ∧ ps.length ≤ i ∧ (∀ k, fp k → w.heap.size ≤ k) ∧ refP (refI l d) (s :: r) (r.length + 1) i0 = (ps.map ItemV.pl ++ (refP (refI l d) (s :: r) n i).1, (refP (refI l d) (s :: r) n i).2)) (fun ⟨n, i, A2, c2, ps, fp⟩ => [(11, .int .i64 (i : Nat))]) (fun ⟨n, i, A2, c2, ps, fp⟩ => [ow 26 3 encIt A2 c2 ps, ow 9 1 enStr (some ⟨b40, 0, none⟩) cc.traits.length ss, ownB b9 (cellsB 37 [.string cc.name, .slice cc.At cc.traits.length cc.ct, .slice cc.Ap cc.parts.length cc.cp, .int .i64 cc.most]), ownB b8 (cellsB 26 [.string s, .slice (some ⟨b40, 0, none⟩) cc.traits.length cc.traits.length, .slice A2 ps.length c2]), ownB b6 (cellsB 26 [.string ⟨#[]⟩, .slice none 0 0, .slice none 0 0])]) (fun ⟨n, i, A2, c2, ps, fp⟩ => [itF fp ps, sl (fun b => b < w.heap.size) 4 encCl Ag l, sl (fun b => b < w.heap.size) 1 enStr A (s :: r)]) (fun ⟨n, i, A2, c2, ps, fp⟩ => (s :: r).length - i) (r.length + 1, i, none, 0, [], fun _ => False) (⟨⟨by omega, by rw [List.length_cons]; omega⟩, Nat.zero_le _, fun k h => h.elim, by rw [hi0]; simp⟩) ⟨rfl, rfl, rfl, rfl, rfl, rfl, rfl, trivial⟩ ?_
        rintro ⟨n, i, A2, c2, ps, fp⟩ ⟨hi2, hpl, hfn, hrp⟩
        dsimp only [List.cons_append, List.nil_append]
        refine cj_seq (cj_seq ?_)
        refine cj_regionG (gj_step (y_move rfl) rfl rfl rfl (gj_step (y_move rfl) rfl rfl rfl (gj_step (y_lenA Tryz.underlying23 rfl) rfl rfl rfl (gj_step (y_lss rfl rfl) rfl rfl rfl (gj_step (y_move rfl) rfl rfl rfl (gj_g 5 95 100 rfl rfl rfl rfl (fun hg95 => gj_yes rfl rfl rfl (y_move rfl) rfl rfl (gj_yes rfl rfl rfl (y_move rfl) rfl rfl (gj_yes rfl rfl rfl (y_ixR (reads_sl (xs := s :: r)) Tryz.underlying23 Tryz.sizeOf9 rfl rfl ⟨by omega, by have h9 := hg95; simp at h9; omega⟩) rfl rfl (gj_yes rfl rfl rfl (y_ld0 (reads_sl) Tryz.isAgg9 rfl ((show (s :: r)[i]? = some (tkD (s :: r) i) from tkD_at (by have h9 := hg95; simp at h9; omega))) rfl) rfl rfl (gj_yes rfl rfl rfl (y_neqS rfl rfl) rfl rfl (gj_nil rfl)))))) (gj_step (y_and rfl rfl rfl) rfl rfl rfl (gj_nil ?_))))))))
        refine ej_th ?_
        refine cj_cond rfl (fun h101 => ?_) (fun h101 => ?_)
        · have h101b := h101
          try simp only [sxb] at h101
          obtain ⟨hjl, hjc⟩ : i < (s :: r).length ∧ (tkD (s :: r) i) ≠ tClose := by
            rw [Bool.and_eq_true, decide_eq_true_eq] at h101b
            refine ⟨by omega, fun h9 => ?_⟩
            rw [h9] at h101b
            exact absurd h101b.2 (by decide)
          obtain ⟨n, rfl⟩ : ∃ n1, n = n1 + 1 := ⟨n - 1, by omega⟩
          refine cj_skip (ej_th (cj_block (cj_seq (cj_region ?_))))
          refine oj_step (y_move rfl) rfl rfl rfl ?_
          refine oj_step (y_move rfl) rfl rfl rfl ?_
          refine oj_step (y_move rfl) rfl rfl rfl ?_
          refine oj_step (y_add rfl rfl (by omega)) rfl rfl rfl ?_
          refine oj_step (y_dropR (i + 1) Tryz.underlying23 Tryz.sizeOf9 rfl rfl (by omega) hTc) rfl rfl rfl ?_
          refine oj_step (y_move rfl) rfl rfl rfl ?_
          refine oj_step (y_add rfl rfl (by omega)) rfl rfl rfl ?_
          refine oj_call (X := { z : ItemV × Nat × Nat × Nat // (z.1.pl, z.2.1) = refI l d ((s :: r).drop (i + 1)) ∧ w.heap.size ≤ z.2.2.1 }) (fun z => .tuple #[evI z.1.1, .int .i64 (z.1.2.1 : Nat)]) (fun _ => []) (fun z => [itF (fun i => z.1.2.2.1 ≤ i ∧ i < z.1.2.2.2) [z.1.1]]) Tryz.call36 rfl (fun w1 hp => by
            have h9 := ih d rfl ((s :: r).drop (i + 1)) (subA A c (i + 1) 1) (c - (i + 1)) w1 hp.rd (fun q hq => (hgc q hq).mono hp.below) (rd_drop hp.rd (i + 1) hTc) (by rw [List.length_drop]; omega) (fun u hu => hsz u (List.mem_of_mem_drop hu)) (by rw [List.length_drop]; omega)
            rw [show (4 : Int) - (d : Int) = 4 - ((d + 1 : Nat) : Int) + 1 by omega] at h9
            exact h9.mono fun e w2 ⟨y, m, he, hg, hz, hG⟩ => ⟨⟨(y, m, w1.heap.size, w2.heap.size), hz, hp.size⟩, he, hg, by simp, by simp, fun f hf => by
              rw [List.mem_singleton.1 hf]
              exact ⟨fun z hz => by rw [List.mem_singleton.1 hz]; exact hG, fun i hi => ⟨hi.1, hi.2, by simp⟩⟩⟩) rfl ?_
          rintro ⟨⟨y, m, n1, n2⟩, hy, hn1⟩
          dsimp only [List.cons_append, List.nil_append] at hy hn1 ⊢
          have hmb : m ≤ (s :: r).length - (i + 1) + d := by
            have h9 := refI_bd l d ((s :: r).drop (i + 1))
            rw [← hy, List.length_drop] at h9
            exact h9
          refine oj_step (y_move rfl) rfl rfl rfl ?_
          refine oj_step (y_extract rfl rfl) rfl rfl rfl ?_
          refine oj_step (y_extract rfl rfl) rfl rfl rfl ?_
          refine oj_alloc Tryz.zeroValue26 rfl rfl (fun b15 => ?_)
          refine oj_store rfl rfl rfl rfl Tryz.sizeOf26 rfl ?_
          refine oj_step (y_assign rfl) rfl rfl rfl ?_
          refine oj_nil ?_
          refine ej_th (cj_seq ?_)
          refine cj_addS (itF (fun i => fp i ∨ (n1 ≤ i ∧ i < n2)) (ps ++ [y])) (fun w1 hp => ⟨fun q hq => ?_, fun i hi => ?_⟩) ?_
          · have h1 := hp.shared (itF fp ps) (by simp)
            have h2 := hp.shared (itF (fun i => n1 ≤ i ∧ i < n2) [y]) (by simp)
            rcases List.mem_append.1 hq with hq | hq
            · exact (h1.1 q hq).fp (fun _ h => .inl h)
            · exact (h2.1 q hq).fp (fun _ h => .inr h)
          · rcases hi with hi | hi
            · exact ⟨(hp.shared (itF fp ps) (by simp)).2.1 i hi, fun o ho => (hp.shared (itF fp ps) (by simp)).2.2 o ho i hi⟩
            · exact ⟨(hp.shared (itF (fun i => n1 ≤ i ∧ i < n2) [y]) (by simp)).2.1 i hi, fun o ho => (hp.shared (itF (fun i => n1 ≤ i ∧ i < n2) [y]) (by simp)).2.2 o ho i hi⟩
          refine cj_region ?_
          refine oj_step (y_fa fa26_2 rfl) rfl rfl rfl ?_
          refine oj_step (y_load1 Tryz.isAgg24 rfl rfl) rfl rfl rfl ?_
          refine oj_step (y_loadN Tryz.isAgg26 Tryz.sizeOf26 rfl) rfl rfl rfl ?_
          refine oj_buildSlice (cs := [.string y.cls, .slice y.As y.says.length y.cs, .slice y.Ap y.parts.length y.cp]) [.string ⟨#[]⟩, .slice none 0 0, .slice none 0 0] Tryz.underlying24 Tryz.sizeOf26 Tryz.zeroValue26 rfl rfl (by kernel_rfl) (by kernel_rfl) rfl (fun b116 => ?_)
          refine oj_append  el24 (fun _ => rfl) encIt_one rfl rfl rfl (reads_lit [y] (fun _ => rfl) rfl) (by unfold maxLen; simp only [List.length_cons, List.length_nil]; omega) (by simp only [List.length_cons, List.length_nil]; omega) rfl (fun A117 c117 => ?_)
          refine oj_step (y_fa fa26_2 rfl) rfl rfl rfl ?_
          refine oj_store rfl rfl rfl rfl Tryz.sizeOf24 rfl ?_
          refine oj_nil ?_
          refine ej_th ?_
          refine cj_regionG (gj_step (y_move rfl) rfl rfl rfl (gj_step (y_add rfl rfl (by omega)) rfl rfl rfl (gj_step (y_move rfl) rfl rfl rfl (gj_step (y_add rfl rfl (by omega)) rfl rfl rfl (gj_step (y_assign rfl) rfl rfl rfl (gj_nil ?_))))))
          refine ej_blk ?_
          exact ej_nx (n, i + 1 + m, A117, c117, ps ++ [y], (fun i => fp i ∨ (n1 ≤ i ∧ i < n2))) (by first | omega | (simp only; omega)) ⟨by first | omega | (simp only; omega), by simp only [List.length_append, List.length_cons, List.length_nil]; omega, fun k hk => by rcases hk with hk | hk; exact hfn k hk; omega, by
            rw [hrp, refP_go hjl hjc, ← hy]; simp⟩ ⟨rfl, rfl, rfl, rfl, rfl, rfl, rfl, trivial⟩
        · have h101b := h101
          try simp only [sxb] at h101
          have hst : refP (refI l d) (s :: r) n i = ([], i) := refP_stop (fun hil => by
            rw [Bool.and_eq_false_iff] at h101b
            rcases h101b with h9 | h9
            · simp at h9; omega
            · exact bytes_eq (by simpa using h9))
          have hrp2 : refP (refI l d) (s :: r) (r.length + 1) i0 = (ps.map ItemV.pl, i) := by rw [hrp, hst, List.append_nil]
          refine cj_exit (ej_then_exit (ej_then_exit (ej_blk_hit (ej_th (cj_seq (cj_region ?_))))))
          refine oj_step (y_loadN Tryz.isAgg26 Tryz.sizeOf26 rfl) rfl rfl rfl ?_
          refine oj_step (y_move rfl) rfl rfl rfl ?_
          refine oj_step (y_add rfl rfl (by omega)) rfl rfl rfl ?_
          refine oj_store rfl rfl rfl rfl Tryz.sizeOf26 rfl ?_
          refine oj_step (y_assign rfl) rfl rfl rfl ?_
          refine oj_nil ?_
          refine ej_th (cj_ret ?_)
          exact ej_retC2 rfl Tryz.results36 rfl (y_loadN Tryz.isAgg26 Tryz.sizeOf26 rfl) rfl (fun w' hp => ⟨.mk s (some ⟨b40, 0, none⟩) ss.length ss A2 c2 ps, (i + 1), by first | rfl | (rw [← hsl]; rfl), hp.below, (by rw [hrf, hrp2, pl_eq]; rfl), .mk (hp.res (A := some ⟨b40, 0, none⟩) (e := 9) (c := cc.traits.length) (enc := enStr) (xs := ss) (fun _ => rfl) (by unfold maxLen; omega)) (hp.res (A := A2) (e := 26) (c := c2) (enc := encIt) (xs := ps) (fun _ => rfl) (by unfold maxLen; omega)) (by show s.size ≤ _; have h9 := hsz s (List.mem_cons_self ..); omega) (fun u hu => by have h9 := hss u hu; omega) (fun p hp2 => by
            have h7 := hp.shared (itF fp ps) (by simp)
            exact (h7.1 p hp2).fp (fun i hi => ⟨hfn i hi, h7.2.1 i hi⟩))⟩)

end Go.Proofs.YtlfbghkcfmcnlaaGreatDoor
namespace Go.Proofs.YtlfbghkcfmcnlaaGreatDoor
open Go.Sx Go.RowKit
set_option maxRecDepth 20000
theorem k_Cut32 (s : ByteArray) (w : World) (hss : s.size ≤ 70000) : Calls Tryz.prog 37 #[.string s, .int .u8 32] w (fun e w' => ∃ (A : Option Addr) (c : Nat), e = .returned (.slice A (cutT 32 s).length c) ∧ Grow w w' ∧ Res w w' 1 enStr A (cutT 32 s) ∧ (cutT 32 s).length ≤ c) := k_Cut s 32 w hss
theorem k_rread (l : List ClassV) (Ag : Option Addr) (cg : Nat) (hgo : gramOk l = true) : ∀ (d : Nat) (T : List ByteArray) (A : Option Addr) (c : Nat) (w : World), d ≤ 4 → Rd w 4 encCl Ag l → (∀ q ∈ l, GoodC w q) → Rd w 1 enStr A T → T.length ≤ c → (∀ u ∈ T, u.size ≤ 65536) → T.length ≤ 70000 → Calls Tryz.prog 36 #[.slice Ag l.length cg, .slice A T.length c, .int .i64 (4 - (d : Int))] w (fun e w' => ∃ (x : ItemV) (n : Nat), e = .returned (.tuple #[evI x, .int .i64 (n : Nat)]) ∧ Grow w w' ∧ (x.pl, n) = refI l d T ∧ GoodF (fun i => w.heap.size ≤ i ∧ i < w'.heap.size) w' x) := by
  intro d
  induction d with
  | zero => intro T A c w hd hl hgc hT hTc hsz hN; exact k_rread1 l Ag cg T A c 0 w hgo hl hgc hT hTc hsz hN hd (fun d1 h => by omega)
  | succ d ih => intro T A c w hd hl hgc hT hTc hsz hN; exact k_rread1 l Ag cg T A c (d + 1) w hgo hl hgc hT hTc hsz hN hd (fun d1 h T1 A1 c1 w1 h1 h2 h3 h4 h5 h6 => by
      obtain rfl : d1 = d := by omega
      exact ih T1 A1 c1 w1 (by omega) h1 h2 h3 h4 h5 h6)

theorem k_rPrint (l : List ClassV) (A : Option Addr) (c : Nat) (x : ItemV) (w : World) (hl : Rd w 4 encCl A l) (hgc : ∀ c ∈ l, GoodC w c) (hx : GoodI w x) : Calls Tryz.prog 7 #[.slice A l.length c, evI x] w (fun e w' => e = .returned (.tuple #[.string (PrnT l x), .int .i64 (askIE l [x])]) ∧ Grow w w') := by
  refine enter_pure (args := [.slice A l.length c, evI x]) [sl (fun b => b < w.heap.size) 4 encCl A l] Tryz.func7 rfl (by rw [Tryz.ntmps7]; simp) (fun g hg => by simp at hg; subst hg; exact ⟨hl, fun _ h => h⟩) ?_
  refine cj_seq (cj_region ?_)
  refine oj_box rfl rfl rfl (fun b3 => ?_)
  refine oj_step (y_assign rfl) rfl rfl rfl ?_
  refine oj_step (y_assign rfl) rfl rfl rfl ?_
  refine oj_nil ?_
  refine ej_th (cj_seq (cj_seq ?_))
  refine cj_regionG ?_
  refine gj_step (y_move rfl) rfl rfl rfl (gj_step (y_loadN Tryz.isAgg26 Tryz.sizeOf26 rfl) rfl rfl rfl (?_))
  refine gj_step (y_call Tryz.call29 rfl (fun w hp => k_rCheck l A c x w hp.rd (fun q hq => (hgc q hq).mono hp.below) (hx.mono hp.below))) rfl rfl rfl ?_
  refine gj_step (y_assign rfl) rfl rfl rfl (?_)
  refine gj_nil ?_
  refine ej_th (cj_seq ?_)
  refine cj_regionG (gj_step (y_move rfl) rfl rfl rfl (gj_step (y_neq rfl rfl) rfl rfl rfl (gj_nil ?_)))
  refine ej_th ?_
  refine cj_cond rfl (fun h11 => ?_) (fun h11 => ?_)
  · have h11b := h11
    try simp only [sxb] at h11
    have hno := askIE_no h11b
    refine cj_seq ?_
    refine cj_regionG (gj_step (y_move rfl) rfl rfl rfl (gj_step (y_assign rfl) rfl rfl rfl (gj_step (y_assign rfl) rfl rfl rfl (gj_nil ?_))))
    refine ej_th (cj_ret (ej_then_ret ?_))
    refine ej_ret2 rfl Tryz.results7 rfl rfl (fun w' hp => ⟨?_, hp.below⟩)
    rw [PrnT, hno]; rfl
  · have h11b := h11
    try simp only [sxb] at h11
    have hok := askIE_ok h11b
    obtain ⟨hoT, hcn⟩ := ask_T hok x (by simp)
    have hgO := ask_gram hok
    have hz := askIE_0 hok
    refine cj_skip (ej_th (cj_seq ?_))
    refine cj_regionG ?_
    refine gj_step (y_move rfl) rfl rfl rfl (gj_step (y_loadN Tryz.isAgg26 Tryz.sizeOf26 rfl) rfl rfl rfl (?_))
    refine gj_step (y_call Tryz.call30 rfl (fun w hp => k_rtext l A c hx w hp.below hgO hp.rd (fun q hq => (hgc q hq).mono hp.below) hoT hcn)) rfl rfl rfl ?_
    refine gj_step (y_assign rfl) rfl rfl rfl (gj_step (y_assign rfl) rfl rfl rfl (?_))
    refine gj_nil ?_
    refine ej_th (cj_ret ?_)
    refine ej_ret2 rfl Tryz.results7 rfl rfl (fun w' hp => ⟨?_, hp.below⟩)
    rw [PrnT, hok, hz]; rfl

set_option maxHeartbeats 1600000 in
theorem k_rParse (l : List ClassV) (A : Option Addr) (c : Nat) (s : ByteArray) (w : World) (hl : Rd w 4 encCl A l) (hgc : ∀ c ∈ l, GoodC w c) (hss : s.size ≤ 9223372036854775807) : Calls Tryz.prog 9 #[.slice A l.length c, .string s] w (fun e w' => ∃ (y : ItemV) (E : Int), e = .returned (.tuple #[evI y, .int .i64 E]) ∧ Grow w w' ∧ PrsR l s y E ∧ GoodF (fun i => w.heap.size ≤ i ∧ i < w'.heap.size) w' y) := by
  refine enter_pure (args := [.slice A l.length c, .string s]) [sl (fun b => b < w.heap.size) 4 encCl A l] Tryz.func9 rfl (by rw [Tryz.ntmps9]; simp) (fun g hg => by simp at hg; subst hg; exact ⟨hl, fun _ h => h⟩) ?_
  refine cj_seq (cj_region ?_)
  refine oj_alloc Tryz.zeroValue26 rfl rfl (fun b4 => ?_)
  refine oj_step (y_assign rfl) rfl rfl rfl ?_
  refine oj_nil ?_
  refine ej_th (cj_seq (cj_seq ?_))
  refine cj_regionG ?_
  refine gj_step (y_move rfl) rfl rfl rfl (?_)
  refine gj_step (y_call Tryz.call35 rfl (fun w hp => k_rCheckG l A c w hp.rd (fun q hq => (hgc q hq).mono hp.below))) rfl rfl rfl ?_
  refine gj_step (y_assign rfl) rfl rfl rfl (?_)
  refine gj_nil ?_
  refine ej_th (cj_seq ?_)
  refine cj_regionG (gj_step (y_move rfl) rfl rfl rfl (gj_step (y_neq rfl rfl) rfl rfl rfl (gj_nil ?_)))
  refine ej_th ?_
  refine cj_cond rfl (fun h14 => ?_) (fun h14 => ?_)
  · have h14b := h14
    try simp only [sxb] at h14
    have hok : gramOk l = false := by
      cases hg : gramOk l with
      | false => rfl
      | true => rw [gramE, hg] at h14; simp at h14
    refine cj_seq (cj_region ?_)
    refine oj_step (y_build st26 rfl rfl) rfl rfl rfl ?_
    refine oj_step (y_move rfl) rfl rfl rfl ?_
    refine oj_store rfl rfl rfl rfl Tryz.sizeOf26 rfl ?_
    refine oj_step (y_assign rfl) rfl rfl rfl ?_
    refine oj_nil ?_
    refine ej_th (cj_ret (ej_then_ret ?_))
    have hE : gramE l = 10 := by rw [gramE, hok]; rfl
    rw [hE]
    exact ej_retC2 rfl Tryz.results9 rfl (y_loadN Tryz.isAgg26 Tryz.sizeOf26 rfl) rfl (fun w' hp => ⟨zIV, 10, rfl, hp.below, .gram hok, good_zero _ _⟩)
  · have h14b := h14
    try simp only [sxb] at h14
    have hok : gramOk l = true := by
      cases hg : gramOk l with
      | true => rfl
      | false => rw [gramE, hg] at h14; simp at h14
    refine cj_skip (ej_th (cj_seq (cj_seq ?_)))
    refine cj_regionG (gj_step (y_move rfl) rfl rfl rfl (gj_step (y_lenS Tryz.underlying9 rfl) rfl rfl rfl (gj_step (y_gtr rfl rfl) rfl rfl rfl (gj_nil ?_))))
    refine ej_th ?_
    refine cj_cond rfl (fun h19 => ?_) (fun h19 => ?_)
    · have h19b := h19
      try simp only [sxb] at h19
      have hlim : 65536 < s.size := by omega
      refine cj_seq (cj_region ?_)
      refine oj_step (y_build st26 rfl rfl) rfl rfl rfl ?_
      refine oj_store rfl rfl rfl rfl Tryz.sizeOf26 rfl ?_
      refine oj_step (y_assign rfl) rfl rfl rfl ?_
      refine oj_nil ?_
      refine ej_th (cj_ret (ej_then_ret ?_))
      exact ej_retC2 rfl Tryz.results9 rfl (y_loadN Tryz.isAgg26 Tryz.sizeOf26 rfl) rfl (fun w' hp => ⟨zIV, 3, rfl, hp.below, .limit hok hlim, good_zero _ _⟩)
    · have h19b := h19
      try simp only [sxb] at h19
      refine cj_skip (ej_th (cj_seq (cj_region ?_)))
      refine oj_step (y_move rfl) rfl rfl rfl ?_
      refine oj_step (y_move rfl) rfl rfl rfl ?_
      refine oj_call (X := { z : Option Addr × Nat × Nat × Nat // (cutT 32 s).length ≤ z.2.1 }) (fun z => .slice z.1.1 (cutT 32 s).length z.1.2.1) (fun _ => []) (fun z => [sl (fun b => z.1.2.2.1 ≤ b ∧ b < z.1.2.2.2) 1 enStr z.1.1 (cutT 32 s)]) Tryz.call37 rfl (fun w1 hp => (k_Cut32 s w1 (by omega)).mono fun e w2 ⟨A, c, h1, h2, h3, h4⟩ => ⟨⟨(A, c, w1.heap.size, w2.heap.size), h4⟩, h1, h2, by simp, by simp, fun f hf => by
        rw [List.mem_singleton.1 hf]
        exact ⟨h3, fun i hi => ⟨hi.1, hi.2, by simp⟩⟩⟩) rfl ?_
      rintro ⟨⟨At, ct, a1, a2⟩, hct⟩
      dsimp only [List.cons_append, List.nil_append] at hct ⊢
      refine oj_call (X := { z : ItemV × Nat × Nat × Nat // (z.1.pl, z.2.1) = refI l 3 (cutT 32 s) ∧ w.heap.size ≤ z.2.2.1 }) (fun z => .tuple #[evI z.1.1, .int .i64 (z.1.2.1 : Nat)]) (fun _ => []) (fun z => [itF (fun i => z.1.2.2.1 ≤ i ∧ i < z.1.2.2.2) [z.1.1]]) Tryz.call36 rfl (fun w1 hp => by
        have h9 := k_rread l A c hok 3 (cutT 32 s) At ct w1 (by omega) hp.rd (fun q hq => (hgc q hq).mono hp.below) hp.rd hct (fun u hu => Nat.le_trans (cutT_sz 32 s u hu) (by omega)) (by have h8 := (split_sz s).1; rw [← cut_split] at h8; omega)
        exact h9.mono fun e w2 ⟨y, m, he, hg, hz, hG⟩ => ⟨⟨(y, m, w1.heap.size, w2.heap.size), hz, hp.size⟩, he, hg, by simp, by simp, fun f hf => by
          rw [List.mem_singleton.1 hf]
          exact ⟨fun z hz => by rw [List.mem_singleton.1 hz]; exact hG, fun i hi => ⟨hi.1, hi.2, by simp⟩⟩⟩) rfl ?_
      rintro ⟨⟨x, m, n1, n2⟩, hx, hn1⟩
      dsimp only [List.cons_append, List.nil_append] at hx hn1 ⊢
      refine oj_step (y_move rfl) rfl rfl rfl ?_
      refine oj_step (y_extract rfl rfl) rfl rfl rfl ?_
      refine oj_step (y_extract rfl rfl) rfl rfl rfl ?_
      refine oj_alloc Tryz.zeroValue26 rfl rfl (fun b7 => ?_)
      refine oj_store rfl rfl rfl rfl Tryz.sizeOf26 rfl ?_
      refine oj_step (y_assign rfl) rfl rfl rfl ?_
      refine oj_nil ?_
      refine ej_th (cj_seq ?_)
      refine cj_regionG ?_
      refine gj_step (y_move rfl) rfl rfl rfl (gj_step (y_loadN Tryz.isAgg26 Tryz.sizeOf26 rfl) rfl rfl rfl (?_))
      refine gj_step (y_call Tryz.call7 rfl (fun w hp => by
        have h1 : GoodI w x := hp_it hp (fun i => n1 ≤ i ∧ i < n2) x
        exact k_rPrint l A c x w hp.rd (fun q hq => (hgc q hq).mono hp.below) h1)) rfl rfl rfl ?_
      refine gj_step (y_move rfl) rfl rfl rfl (gj_step (y_extract rfl rfl) rfl rfl rfl (gj_step (y_extract rfl rfl) rfl rfl rfl (gj_step (y_assign rfl) rfl rfl rfl (gj_step (y_assign rfl) rfl rfl rfl (?_)))))
      refine gj_nil ?_
      refine ej_th (cj_seq (cj_seq ?_))
      refine cj_regionG (gj_step (y_move rfl) rfl rfl rfl (gj_step (y_neq rfl rfl) rfl rfl rfl (gj_step (y_move rfl) rfl rfl rfl (gj_g 3 36 39 rfl rfl rfl rfl (fun hg36 => gj_yes rfl rfl rfl (y_move rfl) rfl rfl (gj_yes rfl rfl rfl (y_move rfl) rfl rfl (gj_yes rfl rfl rfl (y_neqS rfl rfl) rfl rfl (gj_nil rfl)))) (gj_step (y_or rfl rfl rfl) rfl rfl rfl (gj_nil ?_))))))
      refine ej_th ?_
      refine cj_cond rfl (fun h40 => ?_) (fun h40 => ?_)
      · have h40b := h40
        try simp only [sxb] at h40
        have hfo := ref_form hok (s := s) (x := x) (by rw [← hx]) (fun h9 => by
          rw [askIE_0 h9.1, h9.2, show (!s == s) = false by rw [show (s == s) = true by rw [bytes_beq]; exact decide_eq_true rfl]; rfl] at h40b
          simp at h40b)
        refine cj_seq (cj_region ?_)
        refine oj_step (y_build st26 rfl rfl) rfl rfl rfl ?_
        refine oj_store rfl rfl rfl rfl Tryz.sizeOf26 rfl ?_
        refine oj_step (y_assign rfl) rfl rfl rfl ?_
        refine oj_nil ?_
        refine ej_th (cj_ret (ej_then_ret ?_))
        exact ej_retC2 rfl Tryz.results9 rfl (y_loadN Tryz.isAgg26 Tryz.sizeOf26 rfl) rfl (fun w' hp => ⟨zIV, 5, rfl, hp.below, .form hok (by omega) hfo, good_zero _ _⟩)
      · have h40b := h40
        try simp only [sxb] at h40
        rw [Bool.or_eq_false_iff] at h40b
        obtain ⟨hr, ho⟩ := ref_ok (l := l) (s := s) (x := x) (askIE_ok h40b.1) (bytes_eq (by have h9 := h40b.2; simpa [bne] using h9))
        refine cj_skip (ej_th (cj_seq (cj_region ?_)))
        refine oj_step (y_loadN Tryz.isAgg26 Tryz.sizeOf26 rfl) rfl rfl rfl ?_
        refine oj_store rfl rfl rfl rfl Tryz.sizeOf26 rfl ?_
        refine oj_step (y_assign rfl) rfl rfl rfl ?_
        refine oj_nil ?_
        refine ej_th (cj_ret ?_)
        exact ej_retC2 rfl Tryz.results9 rfl (y_loadN Tryz.isAgg26 Tryz.sizeOf26 rfl) rfl (fun w' hp => ⟨x, 0, rfl, hp.below, .ok hok (by omega) x hr ho, ((hp.shared (itF (fun i => n1 ≤ i ∧ i < n2) [x]) (by simp)).1 x (List.mem_cons_self ..)).fp (fun i hi => ⟨Nat.le_trans hn1 hi.1, (hp.shared (itF (fun i => n1 ≤ i ∧ i < n2) [x]) (by simp)).2.1 i hi⟩)⟩)

set_option maxHeartbeats 1000000 in
theorem k_PledgeTexts (l : List ClassV) (A : Option Addr) (c : Nat) (x : ItemV) (s : ByteArray) (mx : Int) (w : World) (hl : Rd w 4 encCl A l) (hgc : ∀ c ∈ l, GoodC w c) (hgx : GoodI w x) (hss : s.size ≤ 9223372036854775807) (hm0 : Gl w 0 [.int .i64 mx]) : Calls Tryz.prog 3 #[.slice A l.length c, evI x, .string s] w (fun e w' => e = .returned (.bool true) ∧ Grow w w') := by
  refine enter_pure (args := [.slice A l.length c, evI x, .string s]) [sl (fun b => b < w.heap.size) 4 encCl A l, gl 0 [.int .i64 mx]] Tryz.func3 rfl (by rw [Tryz.ntmps3]; simp) (fun g hg => by
    simp only [List.mem_cons, List.mem_nil_iff, or_false] at hg
    rcases hg with rfl | rfl
    · exact ⟨hl, fun _ h => h⟩
    · exact ⟨hm0.1, fun i hi => by have hi : i = 0 := hi; subst hi; exact hm0.2⟩) ?_
  refine cj_seq (cj_region ?_)
  refine oj_box rfl rfl rfl (fun b4 => ?_)
  refine oj_step (y_assign rfl) rfl rfl rfl ?_
  refine oj_nil ?_
  refine ej_th (cj_seq ?_)
  refine cj_regionG ?_
  refine gj_step (y_move rfl) rfl rfl rfl (gj_step (y_loadN Tryz.isAgg26 Tryz.sizeOf26 rfl) rfl rfl rfl (?_))
  refine gj_step (y_call Tryz.call6 rfl (fun w hp => k_Print l A c x w hp.rd (fun q hq => (hgc q hq).mono hp.below) (hgx.mono hp.below))) rfl rfl rfl ?_
  refine gj_step (y_move rfl) rfl rfl rfl (gj_step (y_extract rfl rfl) rfl rfl rfl (gj_step (y_extract rfl rfl) rfl rfl rfl (gj_step (y_assign rfl) rfl rfl rfl (gj_step (y_assign rfl) rfl rfl rfl (?_)))))
  refine gj_nil ?_
  refine ej_th (cj_seq ?_)
  refine cj_regionG ?_
  refine gj_step (y_move rfl) rfl rfl rfl (gj_step (y_loadN Tryz.isAgg26 Tryz.sizeOf26 rfl) rfl rfl rfl (?_))
  refine gj_step (y_call Tryz.call7 rfl (fun w hp => k_rPrint l A c x w hp.rd (fun q hq => (hgc q hq).mono hp.below) (hgx.mono hp.below))) rfl rfl rfl ?_
  refine gj_step (y_move rfl) rfl rfl rfl (gj_step (y_extract rfl rfl) rfl rfl rfl (gj_step (y_extract rfl rfl) rfl rfl rfl (gj_step (y_assign rfl) rfl rfl rfl (gj_step (y_assign rfl) rfl rfl rfl (?_)))))
  refine gj_nil ?_
  refine ej_th (cj_seq (cj_seq ?_))
  refine cj_regionG (gj_step (y_move rfl) rfl rfl rfl (gj_step (y_move rfl) rfl rfl rfl (gj_step (y_neqS rfl rfl) rfl rfl rfl (gj_step (y_move rfl) rfl rfl rfl (gj_g 3 28 31 rfl rfl rfl rfl (fun hg28 => gj_yes rfl rfl rfl (y_move rfl) rfl rfl (gj_yes rfl rfl rfl (y_move rfl) rfl rfl (gj_yes rfl rfl rfl (y_neq rfl rfl) rfl rfl (gj_nil rfl)))) (gj_step (y_or rfl rfl rfl) rfl rfl rfl (gj_nil ?_)))))))
  refine ej_th ?_
  refine cj_cond rfl (fun h32 => ?_) (fun h32 => ?_)
  · have h8 : (PrnT l x == PrnT l x) = true := by rw [bytes_beq]; exact decide_eq_true rfl
    simp [h8] at h32
  · have h32b := h32
    try simp only [sxb] at h32
    refine cj_skip (ej_th (cj_seq (cj_region ?_)))
    refine oj_step (y_move rfl) rfl rfl rfl ?_
    refine oj_step (y_move rfl) rfl rfl rfl ?_
    refine oj_call (X := { z : ItemV × Int × Nat × Nat // PrsR l s z.1 z.2.1 }) (fun z => .tuple #[evI z.1.1, .int .i64 z.1.2.1]) (fun _ => []) (fun z => [itF (fun i => z.1.2.2.1 ≤ i ∧ i < z.1.2.2.2) [z.1.1]]) Tryz.call8 rfl (fun w1 hp => (k_ParseS l A c s mx w1 hp.rd (fun q hq => (hgc q hq).mono hp.below) hss hp.glo).mono fun e w2 ⟨z, E2, he, hg, hz, hG⟩ => ⟨⟨(z, E2, w1.heap.size, w2.heap.size), hz⟩, he, hg, by simp, by simp, fun f hf => by
      rw [List.mem_singleton.1 hf]
      exact ⟨fun z hz => by rw [List.mem_singleton.1 hz]; exact hG, fun i hi => ⟨hi.1, hi.2, by simp⟩⟩⟩) rfl ?_
    rintro ⟨⟨y, E, n1, n2⟩, hy⟩
    dsimp only [List.cons_append, List.nil_append] at hy ⊢
    refine oj_step (y_move rfl) rfl rfl rfl ?_
    refine oj_step (y_extract rfl rfl) rfl rfl rfl ?_
    refine oj_step (y_extract rfl rfl) rfl rfl rfl ?_
    refine oj_alloc Tryz.zeroValue26 rfl rfl (fun b11 => ?_)
    refine oj_store rfl rfl rfl rfl Tryz.sizeOf26 rfl ?_
    refine oj_step (y_assign rfl) rfl rfl rfl ?_
    refine oj_nil ?_
    refine ej_th (cj_seq (cj_region ?_))
    refine oj_step (y_move rfl) rfl rfl rfl ?_
    refine oj_step (y_move rfl) rfl rfl rfl ?_
    refine oj_call (X := { z : ItemV × Int × Nat × Nat // PrsR l s z.1 z.2.1 }) (fun z => .tuple #[evI z.1.1, .int .i64 z.1.2.1]) (fun _ => []) (fun z => [itF (fun i => z.1.2.2.1 ≤ i ∧ i < z.1.2.2.2) [z.1.1]]) Tryz.call9 rfl (fun w1 hp => (k_rParse l A c s w1 hp.rd (fun q hq => (hgc q hq).mono hp.below) hss).mono fun e w2 ⟨z, E2, he, hg, hz, hG⟩ => ⟨⟨(z, E2, w1.heap.size, w2.heap.size), hz⟩, he, hg, by simp, by simp, fun f hf => by
      rw [List.mem_singleton.1 hf]
      exact ⟨fun z hz => by rw [List.mem_singleton.1 hz]; exact hG, fun i hi => ⟨hi.1, hi.2, by simp⟩⟩⟩) rfl ?_
    rintro ⟨⟨z, F, m1, m2⟩, hz⟩
    dsimp only [List.cons_append, List.nil_append] at hz ⊢
    refine oj_step (y_move rfl) rfl rfl rfl ?_
    refine oj_step (y_extract rfl rfl) rfl rfl rfl ?_
    refine oj_step (y_extract rfl rfl) rfl rfl rfl ?_
    refine oj_alloc Tryz.zeroValue26 rfl rfl (fun b12 => ?_)
    refine oj_store rfl rfl rfl rfl Tryz.sizeOf26 rfl ?_
    refine oj_step (y_assign rfl) rfl rfl rfl ?_
    refine oj_nil ?_
    refine ej_th (cj_seq ?_)
    obtain ⟨hpl, rfl⟩ := prs_same hy hz
    have hdep := prs_dep hy
    refine cj_regionG ?_
    refine gj_step (y_loadN Tryz.isAgg26 Tryz.sizeOf26 rfl) rfl rfl rfl (gj_step (y_loadN Tryz.isAgg26 Tryz.sizeOf26 rfl) rfl rfl rfl (?_))
    refine gj_step (y_call Tryz.call10 rfl (fun w hp => by
      have h1 : GoodI w y := hp_it hp (fun i => n1 ≤ i ∧ i < n2) y
      have h2 : GoodI w z := hp_it hp (fun i => m1 ≤ i ∧ i < m2) z
      exact k_SameItems y z w h1 h2 hpl hdep)) rfl rfl rfl ?_
    refine gj_step (y_move rfl) rfl rfl rfl (?_)
    refine gj_g 3 48 51 rfl rfl rfl rfl (fun hg48 => gj_yes rfl rfl rfl (y_move rfl) rfl rfl (gj_yes rfl rfl rfl (y_move rfl) rfl rfl (gj_yes rfl rfl rfl (y_eql rfl rfl) rfl rfl (gj_nil rfl)))) ?_
    refine gj_step (y_and rfl rfl rfl) rfl rfl rfl (gj_step (y_move rfl) rfl rfl rfl (?_))
    refine gj_g 1 53 54 rfl rfl rfl rfl (fun hg53 => gj_yes rfl rfl rfl (y_call Tryz.call11 rfl (fun w hp => k_works w)) rfl rfl (gj_nil rfl)) ?_
    refine gj_step (y_and rfl rfl rfl) rfl rfl rfl (gj_step (y_assign rfl) rfl rfl rfl (?_))
    refine gj_nil ?_
    refine ej_th (cj_ret ?_)
    refine ej_ret1 rfl Tryz.results3 rfl (fun w' hp => ⟨?_, hp.below⟩)
    simp

end Go.Proofs.YtlfbghkcfmcnlaaGreatDoor
