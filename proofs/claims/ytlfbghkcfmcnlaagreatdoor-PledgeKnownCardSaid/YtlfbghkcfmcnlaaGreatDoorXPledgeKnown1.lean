/- Texts of ours, joined: 16 of them. Conditions: none. -/
import Derived.Test.YtlfbghkcfmcnlaaGreatDoorXPledgeKnown0
import Derived.Test.YtlfbghkcfmcnlaaGreatDoorProg
import Derived.Laws.StructEq
namespace Go.Proofs.YtlfbghkcfmcnlaaGreatDoor
open Go.Sx Go.RowKit
set_option maxRecDepth 20000
set_option maxHeartbeats 2000000 in
theorem k_sort1 (x : ItemV) (b : Nat) (g : List (ByteArray × ClassV)) (w : World) (hM : (mp ekS evC b g).P w) (hbl : b < w.heap.size) (hgg : ∀ p ∈ g, GoodC w p.2) (hx : GoodI w x) (ho : OkT g x.pl) (hcn : cntT x.pl ≤ 24) (ih : ∀ p ∈ x.parts, ∀ (w1 : World), Grow w w1 → Calls Tryz.prog 77 #[.map (some b), evI p] w1 (fun e w' => ∃ y : ItemV, e = .returned (evI y) ∧ Grow w1 w' ∧ y.pl = sortT g p.pl ∧ GoodF (fun i => w1.heap.size ≤ i ∧ i < w'.heap.size) w' y)) : Calls Tryz.prog 77 #[.map (some b), evI x] w (fun e w' => ∃ y : ItemV, e = .returned (evI y) ∧ Grow w w' ∧ y.pl = sortT g x.pl ∧ GoodF (fun i => w.heap.size ≤ i ∧ i < w'.heap.size) w' y) := by
  have hl1 := hx.rs.len
  have hl2 := hx.rp.len
  have hp6 : x.parts.length ≤ 6 := by have := ho.few; rw [pl_parts, List.length_map] at this; exact this
  obtain ⟨c, hgc, hsl, ht8, htn⟩ := ho.get
  rw [pl_says] at hsl
  refine enter_pure (args := [.map (some b), evI x]) [mp ekS evC b g] Tryz.func77 rfl (by rw [Tryz.ntmps77]; simp) (fun f hf => by simp at hf; subst hf; exact ⟨hM, fun i hi => by have : i = b := hi; subst this; exact hbl⟩) ?_
  refine cj_seq (cj_region ?_)
  refine oj_box rfl rfl rfl (fun b2 => ?_)
  refine oj_box rfl rfl rfl (fun b3 => ?_)
  refine oj_alloc Tryz.zeroValue26 rfl rfl (fun b4 => ?_)
  refine oj_nil ?_
  refine ej_th (cj_seq ?_)
  refine cj_rd hx.rs (fun _ h => h) ?_
  refine cj_plan 8 (by kernel_rfl) (by kernel_rfl) ?_
  refine pl_y 0 rfl (y_fa0 fa26_0 rfl) rfl rfl rfl rfl (by kernel_rfl) ?_
  refine pl_y 1 rfl (y_load1 Tryz.isAgg9 rfl rfl) rfl rfl rfl rfl (by kernel_rfl) ?_
  refine pl_y 2 rfl (y_fa fa26_1 rfl) rfl rfl rfl rfl (by kernel_rfl) ?_
  refine pl_y 3 rfl (y_load1 Tryz.isAgg23 rfl rfl) rfl rfl rfl rfl (by kernel_rfl) ?_
  refine pl_w2 4 6 (by kernel_rfl) rfl rfl (pl_fire rfl rfl rfl (by kernel_rfl) ?_) (pl_fire rfl rfl rfl (by kernel_rfl) ?_)
  · refine oj_callS (fun A c => .slice A x.says.length c) 1 enStr x.says Tryz.call91 rfl (fun w hp => k_Clone x.says x.As x.cs w hp.rd (by omega)) rfl (fun A12 c12 fp12 hfp12 => ?_)
    refine oj_nil ?_
    refine ej_pl (lt_w (by kernel_rfl) (lt_y (y_fa fa26_1 rfl) rfl (lt_y (y_load1 Tryz.isAgg9 rfl rfl) rfl (lt_y (y_fa0 fa26_0 rfl) rfl (lt_nil))))) ?_
    refine pl_y 5 rfl (y_build (cs := [.string x.cls, .slice A12 x.says.length c12, .slice none 0 0]) st26 rfl (by kernel_rfl)) rfl rfl rfl rfl (by kernel_rfl) ?_
    refine pl_w1 6 (by kernel_rfl) rfl rfl (pl_fire rfl rfl rfl (by kernel_rfl) ?_)
    refine oj_alloc Tryz.zeroValue26 rfl rfl (fun b5 => ?_)
    refine oj_nil ?_
    refine ej_pl (lt_y (y_build (cs := [.string x.cls, .slice A12 x.says.length c12, .slice none 0 0]) st26 rfl (by kernel_rfl)) rfl (lt_y (y_load1 Tryz.isAgg23 rfl rfl) rfl (lt_y (y_fa fa26_1 rfl) rfl (lt_y (y_load1 Tryz.isAgg9 rfl rfl) rfl (lt_y (y_fa0 fa26_0 rfl) rfl (lt_nil)))))) ?_
    refine pl_w1 7 (by kernel_rfl) rfl rfl (pl_fire rfl rfl rfl (by kernel_rfl) ?_)
    refine oj_store rfl rfl rfl rfl Tryz.sizeOf26 rfl ?_
    refine oj_nil ?_
    refine ej_pl (lt_w (by kernel_rfl) (lt_w (by kernel_rfl) (lt_w (by kernel_rfl) (lt_w (by kernel_rfl) (lt_w (by kernel_rfl) (lt_nil)))))) ?_
    refine pl_end (by kernel_rfl) ?_
    refine ej_th (cj_seq (cj_seq ?_))
    refine cj_regionG (gj_step (y_fa fa26_2 rfl) rfl rfl rfl (gj_step (y_load1 Tryz.isAgg24 rfl rfl) rfl rfl rfl (gj_step (y_lenA Tryz.underlying24 rfl) rfl rfl rfl (gj_step (y_move rfl) rfl rfl rfl (gj_nil ?_)))))
    refine ej_th (cj_block ?_)
    refine cj_ownNil 26 3 encIt ?_
    refine cj_rd hx.rp (fun _ h => h) ?_
    refine cj_addS (itF (fun _ => False) []) (fun w hp => ⟨fun z hz => (by cases hz), fun i hi => hi.elim⟩) ?_
    refine cj_eqO [ow 26 3 encIt none 0 ([] : List ItemV), ownB b5 (cellsB 26 [.string x.cls, .slice A12 x.says.length c12, .slice none ([] : List ItemV).length 0]), ownB b4 (cellsB 26 [.string ⟨#[]⟩, .slice none 0 0, .slice none 0 0]), ownB b3 (cellsB 26 [.string x.cls, .slice x.As x.says.length x.cs, .slice x.Ap x.parts.length x.cp]), ownB b2 (cellsB 73 [.map (some b)])] rfl ?_
    refine cj_lpi (X := Nat × Option Addr × Nat × List ItemV × (Nat → Prop)) [(2, _), (4, _), (5, _), (15, _), (16, _)] (fun ⟨k, A1, c1, ys, fp⟩ => k ≤ x.parts.length ∧ ys.map ItemV.pl = (x.parts.take k).map (fun p => sortT g p.pl) ∧ ∀ i, fp i → w.heap.size ≤ i) (fun ⟨k, A1, c1, ys, fp⟩ => [(17, .int .i64 k)]) (fun ⟨k, A1, c1, ys, fp⟩ => [ow 26 3 encIt A1 c1 ys, ownB b5 (cellsB 26 [.string x.cls, .slice A12 x.says.length c12, .slice A1 ys.length c1]), ownB b4 (cellsB 26 [.string ⟨#[]⟩, .slice none 0 0, .slice none 0 0]), ownB b3 (cellsB 26 [.string x.cls, .slice x.As x.says.length x.cs, .slice x.Ap x.parts.length x.cp]), ownB b2 (cellsB 73 [.map (some b)])]) (fun ⟨k, A1, c1, ys, fp⟩ => [itF fp ys, sl (fun b => b < w.heap.size) 3 encIt x.Ap x.parts, sl fp12 1 enStr A12 x.says, mp ekS evC b g]) (fun ⟨k, A1, c1, ys, fp⟩ => x.parts.length - k) (0, none, 0, [], fun _ => False) (⟨Nat.zero_le _, rfl, fun i h => h.elim⟩) ⟨rfl, rfl, rfl, rfl, rfl, rfl, trivial⟩ ?_
    rintro ⟨k, A1, c1, ys, fp⟩ ⟨hk, hys, hfn⟩
    dsimp only [List.cons_append, List.nil_append]
    have hxl : ys.length = k := by have := congrArg List.length hys; simp only [List.length_map, List.length_take] at this; omega
    have hmS : itF fp ys ∈ [itF fp ys, sl (fun b => b < w.heap.size) 3 encIt x.Ap x.parts, sl fp12 1 enStr A12 x.says, mp ekS evC b g] := List.mem_cons_self ..
    refine cj_seq ?_
    refine cj_regionG (gj_step (y_lss rfl rfl) rfl rfl rfl (gj_nil ?_))
    refine ej_th (cj_seq ?_)
    refine cj_cond rfl (fun h18 => ?_) (fun h18 => ?_)
    · have h18b := h18
      try simp only [sxb] at h18
      obtain ⟨q, hq⟩ : ∃ q, x.parts[k]? = some q := ⟨_, List.getElem?_eq_getElem (by omega)⟩
      refine cj_skip (ej_th (cj_seq (cj_block (cj_seq (cj_region ?_)))))
      refine oj_step (y_ixR (reads_sl) Tryz.underlying24 Tryz.sizeOf26 rfl rfl (⟨by omega, by omega⟩)) rfl rfl rfl ?_
      refine oj_step (y_ldW (reads_sl) Tryz.isAgg26 Tryz.sizeOf26 rfl (hq) (fun _ => rfl)) rfl rfl rfl ?_
      refine oj_alloc Tryz.zeroValue26 rfl rfl (fun b7 => ?_)
      refine oj_store rfl rfl rfl rfl Tryz.sizeOf26 rfl ?_
      refine oj_nil ?_
      refine ej_th ?_
      refine cj_plan 9 (by kernel_rfl) (by kernel_rfl) ?_
      refine pl_y 0 rfl (y_fa fa26_2 rfl) rfl rfl rfl rfl (by kernel_rfl) ?_
      refine pl_y 1 rfl (y_load1 Tryz.isAgg24 rfl rfl) rfl rfl rfl rfl (by kernel_rfl) ?_
      refine pl_y 2 rfl (y_load1 Tryz.isAgg73 rfl rfl) rfl rfl rfl rfl (by kernel_rfl) ?_
      refine pl_y 3 rfl (y_loadN Tryz.isAgg26 Tryz.sizeOf26 rfl) rfl rfl rfl rfl (by kernel_rfl) ?_
      refine pl_w1 4 (by kernel_rfl) rfl rfl (pl_fire rfl rfl rfl (by kernel_rfl) ?_)
      refine oj_call (X := { z : ItemV × Nat × Nat // z.1.pl = sortT g q.pl ∧ w.heap.size ≤ z.2.1 }) (fun z => evI z.1.1) (fun _ => []) (fun z => [itF (fun i => z.1.2.1 ≤ i ∧ i < z.1.2.2) [z.1.1]]) Tryz.call77 rfl (fun w1 hp => (ih q (List.mem_of_getElem? hq) w1 hp.below).mono fun e w2 ⟨y, he, hg, hy, hG⟩ => ⟨⟨(y, w1.heap.size, w2.heap.size), hy, hp.size⟩, he, hg, by simp, by simp, fun f hf => by
        rw [List.mem_singleton.1 hf]
        exact ⟨fun z hz => by rw [List.mem_singleton.1 hz]; exact hG, fun i hi => ⟨hi.1, hi.2, by simp⟩⟩⟩) rfl ?_
      rintro ⟨⟨y, n1, n2⟩, hy, hn1⟩
      dsimp only [List.cons_append, List.nil_append] at hy hn1 ⊢
      refine oj_nil ?_
      refine ej_pl (lt_w (by kernel_rfl) (lt_w (by kernel_rfl) (lt_y (y_load1 Tryz.isAgg24 rfl rfl) rfl (lt_y (y_fa fa26_2 rfl) rfl (lt_nil))))) ?_
      refine pl_w1 5 (by kernel_rfl) rfl rfl (pl_fire rfl rfl rfl (by kernel_rfl) ?_)
      refine oj_buildSlice (cs := [.string y.cls, .slice y.As y.says.length y.cs, .slice y.Ap y.parts.length y.cp]) [.string ⟨#[]⟩, .slice none 0 0, .slice none 0 0] Tryz.underlying24 Tryz.sizeOf26 Tryz.zeroValue26 rfl rfl (by kernel_rfl) (by kernel_rfl) rfl (fun b26 => ?_)
      refine oj_nil ?_
      refine ej_pl (lt_y (y_loadN Tryz.isAgg26 Tryz.sizeOf26 rfl) rfl (lt_y (y_load1 Tryz.isAgg73 rfl rfl) rfl (lt_y (y_load1 Tryz.isAgg24 rfl rfl) rfl (lt_y (y_fa fa26_2 rfl) rfl (lt_nil))))) ?_
      refine pl_w1 6 (by kernel_rfl) rfl rfl (pl_fire rfl rfl rfl (by kernel_rfl) ?_)
      refine oj_append  el24 (fun _ => rfl) encIt_one rfl rfl rfl (reads_lit [y] (fun _ => rfl) rfl) (by unfold maxLen; simp only [List.length_cons, List.length_nil]; omega) (by simp only [List.length_cons, List.length_nil]; omega) rfl (fun A27 c27 => ?_)
      refine oj_nil ?_
      refine ej_pl (lt_y (y_loadN Tryz.isAgg26 Tryz.sizeOf26 rfl) rfl (lt_y (y_load1 Tryz.isAgg73 rfl rfl) rfl (lt_w (by kernel_rfl) (lt_y (y_fa fa26_2 rfl) rfl (lt_nil))))) ?_
      refine pl_y 7 rfl (y_fa fa26_2 rfl) rfl rfl rfl rfl (by kernel_rfl) ?_
      refine pl_w1 8 (by kernel_rfl) rfl rfl (pl_fire rfl rfl rfl (by kernel_rfl) ?_)
      refine oj_store rfl rfl rfl rfl Tryz.sizeOf24 rfl ?_
      refine oj_nil ?_
      refine ej_pl (lt_w (by kernel_rfl) (lt_w (by kernel_rfl) (lt_w (by kernel_rfl) (lt_w (by kernel_rfl) (lt_w (by kernel_rfl) (lt_nil)))))) ?_
      refine pl_end (by kernel_rfl) ?_
      refine ej_blk (ej_th ?_)
      refine cj_regionG (gj_step (y_add rfl rfl (by omega)) rfl rfl rfl (gj_step (y_move rfl) rfl rfl rfl (gj_nil ?_)))
      refine ej_addS (itF (fun i => fp i ∨ (n1 ≤ i ∧ i < n2)) (ys ++ [y])) (fun w1 hp => ?_) ?_
      · have h1 := hp.shared (itF fp ys) (by simp)
        have h2 := hp.shared (itF (fun i => n1 ≤ i ∧ i < n2) [y]) (by simp)
        refine ⟨fun z hz => ?_, fun i hi => ?_⟩
        · rcases List.mem_append.1 hz with hz | hz
          · exact (h1.1 z hz).fp (fun _ h => .inl h)
          · exact (h2.1 z hz).fp (fun _ h => .inr h)
        · rcases hi with hi | hi
          · exact ⟨h1.2.1 i hi, fun g hg => h1.2.2 g hg i hi⟩
          · exact ⟨h2.2.1 i hi, fun g hg => h2.2.2 g hg i hi⟩
      exact ej_nx (k + 1, A27, c27, ys ++ [y], fun i => fp i ∨ (n1 ≤ i ∧ i < n2)) (by simp only; omega) ⟨by first | omega | (simp only; omega), by simp only [List.map_append, List.map_cons, List.map_nil]; rw [hys, List.take_add_one, hq, hy]; simp, fun i hi => by rcases hi with hi | hi; exact hfn i hi; omega⟩ ⟨rfl, rfl, rfl, rfl, rfl, rfl, trivial⟩
    · have h18b := h18
      try simp only [sxb] at h18
      have hn6 : ys.length ≤ 6 := by have := congrArg List.length hys; simp only [List.length_map, List.length_take] at this; omega
      rw [List.take_of_length_le (by omega)] at hys
      have hso : ∀ z ∈ ys, SortI g z := by
        intro z hz
        have hz2 : z.pl ∈ x.parts.map (fun p => sortT g p.pl) := by rw [← hys]; exact List.mem_map.2 ⟨z, hz, rfl⟩
        obtain ⟨p, hp, he⟩ := List.mem_map.1 hz2
        have hpo : p.pl ∈ x.pl.parts := by rw [pl_parts]; exact List.mem_map.2 ⟨p, hp, rfl⟩
        refine ⟨by rw [← he]; exact sort_ok (ho.pt _ hpo), ?_⟩
        rw [← he, sort_cnt]
        have h1 := cntL_mem _ _ hpo
        have h2 := cntT_eq x.pl
        omega
      refine cj_exit (ej_then_exit (ej_then_exit (ej_blk_hit (ej_th (cj_seq (cj_region ?_))))))
      refine oj_step (y_fa fa26_2 rfl) rfl rfl rfl ?_
      refine oj_step (y_load1 Tryz.isAgg24 rfl rfl) rfl rfl rfl ?_
      refine oj_step (y_makeFunc rfl rfl) rfl rfl rfl ?_
      refine oj_mutOw (us' := isort (ltV g) [] ys) Tryz.call92 rfl (fun w1 hp hP => by have h := k_sortS ys A1 c1 b2 b g hn6 w1 hP hp.owL w hp.below hgg (fun i hi => Nat.le_of_not_lt ((hp.own _ (HasOw.mem (xs := ys))).2 i hi).2) fp (hp.shared _ hmS).1 (fun i hi => ⟨(hp.shared _ hmS).2.1 i hi, (hp.shared _ hmS).2.2 _ (HasOw.mem (xs := ys)) i hi⟩) hp.bo (ow_not hP (hp.bo (b := b2)) (by decide)) hp.mpS.1 (hp.mpS (b := b) (ek := ekS) (ev := evC) (l := g)).2 ((hp.shared _ (HasMpS.mem (b := b) (ek := ekS) (ev := evC) (l := g))).2.2 _ (HasOw.mem (xs := ys)) b rfl) hso; exact h) rfl ?_
      refine oj_nil ?_
      refine ej_th (cj_seq (cj_region ?_))
      refine oj_step (y_loadN Tryz.isAgg26 Tryz.sizeOf26 rfl) rfl rfl rfl ?_
      refine oj_store rfl rfl rfl rfl Tryz.sizeOf26 rfl ?_
      refine oj_nil ?_
      refine ej_th (cj_ret ?_)
      refine ej_retC1 rfl Tryz.results77 rfl (y_loadN Tryz.isAgg26 Tryz.sizeOf26 rfl) (fun w' hp => ⟨.mk x.cls A12 c12 x.says A1 c1 (isort (ltV g) [] ys), ?_, hp.below, ?_, ?_⟩)
      · show _ = Ending.returned (.agg #[.string x.cls, .slice A12 x.says.length c12, .slice A1 (isort (ltV g) [] ys).length c1])
        rw [isort_len, List.length_nil, Nat.zero_add]
      · rw [pl_eq, sortT_eq, pl_cls, pl_says, pl_parts]
        show IT.mk x.cls x.says ((isort (ltV g) [] ys).map ItemV.pl) = _
        rw [show (isort (ltV g) [] ys).map ItemV.pl = isort (ltT g) [] (ys.map ItemV.pl) from isort_map ItemV.pl (ltT g) ys [], hys, List.map_map]; rfl
      · have h1 := hp.shared (itF fp ys) hmS
        refine .mk (sl_fp (hp.shared (sl fp12 1 enStr A12 x.says) (by simp)).1 (fun i hi => ⟨hfp12 i hi, (hp.shared (sl fp12 1 enStr A12 x.says) (by simp)).2.1 i hi⟩)) (hp.res (A := A1) (fun _ => rfl) (by rw [isort_len, List.length_nil]; unfold maxLen; omega)) hx.nm hx.sm (fun p hp2 => ?_)
        have hp3 : p ∈ ys := by
          have := (isort_mem (ltV g) ys [] p).1 hp2
          rcases this with h | h
          · cases h
          · exact h
        exact (h1.1 p hp3).fp (fun i hi => ⟨hfn i hi, h1.2.1 i hi⟩)
  · refine oj_alloc Tryz.zeroValue26 rfl rfl (fun b5 => ?_)
    refine oj_nil ?_
    refine ej_pl (lt_y (y_load1 Tryz.isAgg23 rfl rfl) rfl (lt_y (y_fa fa26_1 rfl) rfl (lt_y (y_load1 Tryz.isAgg9 rfl rfl) rfl (lt_y (y_fa0 fa26_0 rfl) rfl (lt_nil))))) ?_
    refine pl_w1 4 (by kernel_rfl) rfl rfl (pl_fire rfl rfl rfl (by kernel_rfl) ?_)
    refine oj_callS (fun A c => .slice A x.says.length c) 1 enStr x.says Tryz.call91 rfl (fun w hp => k_Clone x.says x.As x.cs w hp.rd (by omega)) rfl (fun A12 c12 fp12 hfp12 => ?_)
    refine oj_nil ?_
    refine ej_pl (lt_w (by kernel_rfl) (lt_y (y_fa fa26_1 rfl) rfl (lt_y (y_load1 Tryz.isAgg9 rfl rfl) rfl (lt_y (y_fa0 fa26_0 rfl) rfl (lt_nil))))) ?_
    refine pl_y 5 rfl (y_build (cs := [.string x.cls, .slice A12 x.says.length c12, .slice none 0 0]) st26 rfl (by kernel_rfl)) rfl rfl rfl rfl (by kernel_rfl) ?_
    refine pl_w1 7 (by kernel_rfl) rfl rfl (pl_fire rfl rfl rfl (by kernel_rfl) ?_)
    refine oj_store rfl rfl rfl rfl Tryz.sizeOf26 rfl ?_
    refine oj_nil ?_
    refine ej_pl (lt_w (by kernel_rfl) (lt_w (by kernel_rfl) (lt_w (by kernel_rfl) (lt_w (by kernel_rfl) (lt_w (by kernel_rfl) (lt_nil)))))) ?_
    refine pl_end (by kernel_rfl) ?_
    refine ej_th (cj_seq (cj_seq ?_))
    refine cj_regionG (gj_step (y_fa fa26_2 rfl) rfl rfl rfl (gj_step (y_load1 Tryz.isAgg24 rfl rfl) rfl rfl rfl (gj_step (y_lenA Tryz.underlying24 rfl) rfl rfl rfl (gj_step (y_move rfl) rfl rfl rfl (gj_nil ?_)))))
    refine ej_th (cj_block ?_)
    refine cj_ownNil 26 3 encIt ?_
    refine cj_rd hx.rp (fun _ h => h) ?_
    refine cj_addS (itF (fun _ => False) []) (fun w hp => ⟨fun z hz => (by cases hz), fun i hi => hi.elim⟩) ?_
    refine cj_eqO [ow 26 3 encIt none 0 ([] : List ItemV), ownB b5 (cellsB 26 [.string x.cls, .slice A12 x.says.length c12, .slice none ([] : List ItemV).length 0]), ownB b4 (cellsB 26 [.string ⟨#[]⟩, .slice none 0 0, .slice none 0 0]), ownB b3 (cellsB 26 [.string x.cls, .slice x.As x.says.length x.cs, .slice x.Ap x.parts.length x.cp]), ownB b2 (cellsB 73 [.map (some b)])] rfl ?_
    refine cj_lpi (X := Nat × Option Addr × Nat × List ItemV × (Nat → Prop)) [(2, _), (4, _), (5, _), (15, _), (16, _)] (fun ⟨k, A1, c1, ys, fp⟩ => k ≤ x.parts.length ∧ ys.map ItemV.pl = (x.parts.take k).map (fun p => sortT g p.pl) ∧ ∀ i, fp i → w.heap.size ≤ i) (fun ⟨k, A1, c1, ys, fp⟩ => [(17, .int .i64 k)]) (fun ⟨k, A1, c1, ys, fp⟩ => [ow 26 3 encIt A1 c1 ys, ownB b5 (cellsB 26 [.string x.cls, .slice A12 x.says.length c12, .slice A1 ys.length c1]), ownB b4 (cellsB 26 [.string ⟨#[]⟩, .slice none 0 0, .slice none 0 0]), ownB b3 (cellsB 26 [.string x.cls, .slice x.As x.says.length x.cs, .slice x.Ap x.parts.length x.cp]), ownB b2 (cellsB 73 [.map (some b)])]) (fun ⟨k, A1, c1, ys, fp⟩ => [itF fp ys, sl (fun b => b < w.heap.size) 3 encIt x.Ap x.parts, sl fp12 1 enStr A12 x.says, mp ekS evC b g]) (fun ⟨k, A1, c1, ys, fp⟩ => x.parts.length - k) (0, none, 0, [], fun _ => False) (⟨Nat.zero_le _, rfl, fun i h => h.elim⟩) ⟨rfl, rfl, rfl, rfl, rfl, rfl, trivial⟩ ?_
    rintro ⟨k, A1, c1, ys, fp⟩ ⟨hk, hys, hfn⟩
    dsimp only [List.cons_append, List.nil_append]
    have hxl : ys.length = k := by have := congrArg List.length hys; simp only [List.length_map, List.length_take] at this; omega
    have hmS : itF fp ys ∈ [itF fp ys, sl (fun b => b < w.heap.size) 3 encIt x.Ap x.parts, sl fp12 1 enStr A12 x.says, mp ekS evC b g] := List.mem_cons_self ..
    refine cj_seq ?_
    refine cj_regionG (gj_step (y_lss rfl rfl) rfl rfl rfl (gj_nil ?_))
    refine ej_th (cj_seq ?_)
    refine cj_cond rfl (fun h18 => ?_) (fun h18 => ?_)
    · have h18b := h18
      try simp only [sxb] at h18
      obtain ⟨q, hq⟩ : ∃ q, x.parts[k]? = some q := ⟨_, List.getElem?_eq_getElem (by omega)⟩
      refine cj_skip (ej_th (cj_seq (cj_block (cj_seq (cj_region ?_)))))
      refine oj_step (y_ixR (reads_sl) Tryz.underlying24 Tryz.sizeOf26 rfl rfl (⟨by omega, by omega⟩)) rfl rfl rfl ?_
      refine oj_step (y_ldW (reads_sl) Tryz.isAgg26 Tryz.sizeOf26 rfl (hq) (fun _ => rfl)) rfl rfl rfl ?_
      refine oj_alloc Tryz.zeroValue26 rfl rfl (fun b7 => ?_)
      refine oj_store rfl rfl rfl rfl Tryz.sizeOf26 rfl ?_
      refine oj_nil ?_
      refine ej_th ?_
      refine cj_plan 9 (by kernel_rfl) (by kernel_rfl) ?_
      refine pl_y 0 rfl (y_fa fa26_2 rfl) rfl rfl rfl rfl (by kernel_rfl) ?_
      refine pl_y 1 rfl (y_load1 Tryz.isAgg24 rfl rfl) rfl rfl rfl rfl (by kernel_rfl) ?_
      refine pl_y 2 rfl (y_load1 Tryz.isAgg73 rfl rfl) rfl rfl rfl rfl (by kernel_rfl) ?_
      refine pl_y 3 rfl (y_loadN Tryz.isAgg26 Tryz.sizeOf26 rfl) rfl rfl rfl rfl (by kernel_rfl) ?_
      refine pl_w1 4 (by kernel_rfl) rfl rfl (pl_fire rfl rfl rfl (by kernel_rfl) ?_)
      refine oj_call (X := { z : ItemV × Nat × Nat // z.1.pl = sortT g q.pl ∧ w.heap.size ≤ z.2.1 }) (fun z => evI z.1.1) (fun _ => []) (fun z => [itF (fun i => z.1.2.1 ≤ i ∧ i < z.1.2.2) [z.1.1]]) Tryz.call77 rfl (fun w1 hp => (ih q (List.mem_of_getElem? hq) w1 hp.below).mono fun e w2 ⟨y, he, hg, hy, hG⟩ => ⟨⟨(y, w1.heap.size, w2.heap.size), hy, hp.size⟩, he, hg, by simp, by simp, fun f hf => by
        rw [List.mem_singleton.1 hf]
        exact ⟨fun z hz => by rw [List.mem_singleton.1 hz]; exact hG, fun i hi => ⟨hi.1, hi.2, by simp⟩⟩⟩) rfl ?_
      rintro ⟨⟨y, n1, n2⟩, hy, hn1⟩
      dsimp only [List.cons_append, List.nil_append] at hy hn1 ⊢
      refine oj_nil ?_
      refine ej_pl (lt_w (by kernel_rfl) (lt_w (by kernel_rfl) (lt_y (y_load1 Tryz.isAgg24 rfl rfl) rfl (lt_y (y_fa fa26_2 rfl) rfl (lt_nil))))) ?_
      refine pl_w1 5 (by kernel_rfl) rfl rfl (pl_fire rfl rfl rfl (by kernel_rfl) ?_)
      refine oj_buildSlice (cs := [.string y.cls, .slice y.As y.says.length y.cs, .slice y.Ap y.parts.length y.cp]) [.string ⟨#[]⟩, .slice none 0 0, .slice none 0 0] Tryz.underlying24 Tryz.sizeOf26 Tryz.zeroValue26 rfl rfl (by kernel_rfl) (by kernel_rfl) rfl (fun b26 => ?_)
      refine oj_nil ?_
      refine ej_pl (lt_y (y_loadN Tryz.isAgg26 Tryz.sizeOf26 rfl) rfl (lt_y (y_load1 Tryz.isAgg73 rfl rfl) rfl (lt_y (y_load1 Tryz.isAgg24 rfl rfl) rfl (lt_y (y_fa fa26_2 rfl) rfl (lt_nil))))) ?_
      refine pl_w1 6 (by kernel_rfl) rfl rfl (pl_fire rfl rfl rfl (by kernel_rfl) ?_)
      refine oj_append  el24 (fun _ => rfl) encIt_one rfl rfl rfl (reads_lit [y] (fun _ => rfl) rfl) (by unfold maxLen; simp only [List.length_cons, List.length_nil]; omega) (by simp only [List.length_cons, List.length_nil]; omega) rfl (fun A27 c27 => ?_)
      refine oj_nil ?_
      refine ej_pl (lt_y (y_loadN Tryz.isAgg26 Tryz.sizeOf26 rfl) rfl (lt_y (y_load1 Tryz.isAgg73 rfl rfl) rfl (lt_w (by kernel_rfl) (lt_y (y_fa fa26_2 rfl) rfl (lt_nil))))) ?_
      refine pl_y 7 rfl (y_fa fa26_2 rfl) rfl rfl rfl rfl (by kernel_rfl) ?_
      refine pl_w1 8 (by kernel_rfl) rfl rfl (pl_fire rfl rfl rfl (by kernel_rfl) ?_)
      refine oj_store rfl rfl rfl rfl Tryz.sizeOf24 rfl ?_
      refine oj_nil ?_
      refine ej_pl (lt_w (by kernel_rfl) (lt_w (by kernel_rfl) (lt_w (by kernel_rfl) (lt_w (by kernel_rfl) (lt_w (by kernel_rfl) (lt_nil)))))) ?_
      refine pl_end (by kernel_rfl) ?_
      refine ej_blk (ej_th ?_)
      refine cj_regionG (gj_step (y_add rfl rfl (by omega)) rfl rfl rfl (gj_step (y_move rfl) rfl rfl rfl (gj_nil ?_)))
      refine ej_addS (itF (fun i => fp i ∨ (n1 ≤ i ∧ i < n2)) (ys ++ [y])) (fun w1 hp => ?_) ?_
      · have h1 := hp.shared (itF fp ys) (by simp)
        have h2 := hp.shared (itF (fun i => n1 ≤ i ∧ i < n2) [y]) (by simp)
        refine ⟨fun z hz => ?_, fun i hi => ?_⟩
        · rcases List.mem_append.1 hz with hz | hz
          · exact (h1.1 z hz).fp (fun _ h => .inl h)
          · exact (h2.1 z hz).fp (fun _ h => .inr h)
        · rcases hi with hi | hi
          · exact ⟨h1.2.1 i hi, fun g hg => h1.2.2 g hg i hi⟩
          · exact ⟨h2.2.1 i hi, fun g hg => h2.2.2 g hg i hi⟩
      exact ej_nx (k + 1, A27, c27, ys ++ [y], fun i => fp i ∨ (n1 ≤ i ∧ i < n2)) (by simp only; omega) ⟨by first | omega | (simp only; omega), by simp only [List.map_append, List.map_cons, List.map_nil]; rw [hys, List.take_add_one, hq, hy]; simp, fun i hi => by rcases hi with hi | hi; exact hfn i hi; omega⟩ ⟨rfl, rfl, rfl, rfl, rfl, rfl, trivial⟩
    · have h18b := h18
      try simp only [sxb] at h18
      have hn6 : ys.length ≤ 6 := by have := congrArg List.length hys; simp only [List.length_map, List.length_take] at this; omega
      rw [List.take_of_length_le (by omega)] at hys
      have hso : ∀ z ∈ ys, SortI g z := by
        intro z hz
        have hz2 : z.pl ∈ x.parts.map (fun p => sortT g p.pl) := by rw [← hys]; exact List.mem_map.2 ⟨z, hz, rfl⟩
        obtain ⟨p, hp, he⟩ := List.mem_map.1 hz2
        have hpo : p.pl ∈ x.pl.parts := by rw [pl_parts]; exact List.mem_map.2 ⟨p, hp, rfl⟩
        refine ⟨by rw [← he]; exact sort_ok (ho.pt _ hpo), ?_⟩
        rw [← he, sort_cnt]
        have h1 := cntL_mem _ _ hpo
        have h2 := cntT_eq x.pl
        omega
      refine cj_exit (ej_then_exit (ej_then_exit (ej_blk_hit (ej_th (cj_seq (cj_region ?_))))))
      refine oj_step (y_fa fa26_2 rfl) rfl rfl rfl ?_
      refine oj_step (y_load1 Tryz.isAgg24 rfl rfl) rfl rfl rfl ?_
      refine oj_step (y_makeFunc rfl rfl) rfl rfl rfl ?_
      refine oj_mutOw (us' := isort (ltV g) [] ys) Tryz.call92 rfl (fun w1 hp hP => by have h := k_sortS ys A1 c1 b2 b g hn6 w1 hP hp.owL w hp.below hgg (fun i hi => Nat.le_of_not_lt ((hp.own _ (HasOw.mem (xs := ys))).2 i hi).2) fp (hp.shared _ hmS).1 (fun i hi => ⟨(hp.shared _ hmS).2.1 i hi, (hp.shared _ hmS).2.2 _ (HasOw.mem (xs := ys)) i hi⟩) hp.bo (ow_not hP (hp.bo (b := b2)) (by decide)) hp.mpS.1 (hp.mpS (b := b) (ek := ekS) (ev := evC) (l := g)).2 ((hp.shared _ (HasMpS.mem (b := b) (ek := ekS) (ev := evC) (l := g))).2.2 _ (HasOw.mem (xs := ys)) b rfl) hso; exact h) rfl ?_
      refine oj_nil ?_
      refine ej_th (cj_seq (cj_region ?_))
      refine oj_step (y_loadN Tryz.isAgg26 Tryz.sizeOf26 rfl) rfl rfl rfl ?_
      refine oj_store rfl rfl rfl rfl Tryz.sizeOf26 rfl ?_
      refine oj_nil ?_
      refine ej_th (cj_ret ?_)
      refine ej_retC1 rfl Tryz.results77 rfl (y_loadN Tryz.isAgg26 Tryz.sizeOf26 rfl) (fun w' hp => ⟨.mk x.cls A12 c12 x.says A1 c1 (isort (ltV g) [] ys), ?_, hp.below, ?_, ?_⟩)
      · show _ = Ending.returned (.agg #[.string x.cls, .slice A12 x.says.length c12, .slice A1 (isort (ltV g) [] ys).length c1])
        rw [isort_len, List.length_nil, Nat.zero_add]
      · rw [pl_eq, sortT_eq, pl_cls, pl_says, pl_parts]
        show IT.mk x.cls x.says ((isort (ltV g) [] ys).map ItemV.pl) = _
        rw [show (isort (ltV g) [] ys).map ItemV.pl = isort (ltT g) [] (ys.map ItemV.pl) from isort_map ItemV.pl (ltT g) ys [], hys, List.map_map]; rfl
      · have h1 := hp.shared (itF fp ys) hmS
        refine .mk (sl_fp (hp.shared (sl fp12 1 enStr A12 x.says) (by simp)).1 (fun i hi => ⟨hfp12 i hi, (hp.shared (sl fp12 1 enStr A12 x.says) (by simp)).2.1 i hi⟩)) (hp.res (A := A1) (fun _ => rfl) (by rw [isort_len, List.length_nil]; unfold maxLen; omega)) hx.nm hx.sm (fun p hp2 => ?_)
        have hp3 : p ∈ ys := by
          have := (isort_mem (ltV g) ys [] p).1 hp2
          rcases this with h | h
          · cases h
          · exact h
        exact (h1.1 p hp3).fp (fun i hi => ⟨hfn i hi, h1.2.1 i hi⟩)

theorem k_sorted {w0 : World} {b : Nat} {g : List (ByteArray × ClassV)} {x : ItemV} (hx : GoodI w0 x) : ∀ (w : World), Grow w0 w → (mp ekS evC b g).P w → b < w.heap.size → (∀ p ∈ g, GoodC w p.2) → OkT g x.pl → cntT x.pl ≤ 24 → Calls Tryz.prog 77 #[.map (some b), evI x] w (fun e w' => ∃ y : ItemV, e = .returned (evI y) ∧ Grow w w' ∧ y.pl = sortT g x.pl ∧ GoodF (fun i => w.heap.size ≤ i ∧ i < w'.heap.size) w' y) := by
  induction hx with
  | @mk x hs hp hn hm hr ih =>
    intro w hg hM hbl hgg ho hc
    refine k_sort1 x b g w hM hbl hgg ((GoodI.mk hs hp hn hm hr).mono hg) ho hc (fun p hpm w1 hg1 => ?_)
    have hpo : p.pl ∈ x.pl.parts := by rw [pl_parts]; exact List.mem_map.2 ⟨p, hpm, rfl⟩
    have hcp : cntT p.pl ≤ 24 := by have h1 := cntL_mem _ _ hpo; have h2 := cntT_eq x.pl; omega
    exact ih p hpm w1 (grow_trans hg hg1) ((mp ekS evC b g).stab (fun i hi => hg1.block i (by have : i = b := hi; omega)) hM) (Nat.lt_of_lt_of_le hbl hg1.size) (fun q hq => (hgg q hq).mono hg1) (ho.pt _ hpo) hcp

end Go.Proofs.YtlfbghkcfmcnlaaGreatDoor
namespace Go.Proofs.YtlfbghkcfmcnlaaGreatDoor
open Go.Sx Go.RowKit
set_option maxRecDepth 20000

end Go.Proofs.YtlfbghkcfmcnlaaGreatDoor
namespace Go.Proofs.YtlfbghkcfmcnlaaGreatDoor
open Go.Sx Go.RowKit
set_option maxRecDepth 20000
theorem ask_gram {l : List ClassV} {xs : List ItemV} (h : askIOk l xs = true) : gramOk l = true := by
  simp only [askIOk, Bool.and_eq_true] at h; exact h.1

theorem k_CheckG (l : List ClassV) (A : Option Addr) (c : Nat) (w : World) (hl : Rd w 4 encCl A l) (hgc : ∀ c ∈ l, GoodC w c) : Calls Tryz.prog 12 #[.slice A l.length c] w (fun e w' => e = .returned (.int .i64 (gramE l)) ∧ Grow w w') := by
  refine enter_pure (args := [.slice A l.length c]) [sl (fun b => b < w.heap.size) 4 encCl A l] Tryz.func12 rfl (by rw [Tryz.ntmps12]; simp) (fun g hg => by simp at hg; subst hg; exact ⟨hl, fun _ h => h⟩) ?_
  refine cj_seq ?_
  refine cj_regionG (gj_step (y_assign rfl) rfl rfl rfl (gj_nil ?_))
  refine ej_th (cj_seq (cj_region ?_))
  refine oj_step (y_move rfl) rfl rfl rfl ?_
  refine oj_call (X := Nat) (fun m => .tuple #[.map (bif gramOk l then some m else none), .int .i64 (gramE l)]) (fun _ => []) (fun _ => []) Tryz.call31 rfl (fun w hp => (k_grammarOf l A c w hp.rd (fun c hc => (hgc c hc).mono hp.below)).mono fun e w' ⟨m, he, hg, _⟩ => ⟨m, he, hg, by simp, by simp, by simp⟩) rfl (fun m7 => ?_)
  dsimp only [List.cons_append, List.nil_append]
  refine oj_step (y_move rfl) rfl rfl rfl ?_
  refine oj_step (y_extract rfl rfl) rfl rfl rfl ?_
  refine oj_step (y_extract rfl rfl) rfl rfl rfl ?_
  refine oj_step (y_assign rfl) rfl rfl rfl ?_
  refine oj_step (y_assign rfl) rfl rfl rfl ?_
  refine oj_nil ?_
  refine ej_th (cj_seq ?_)
  refine cj_regionG (gj_step (y_move rfl) rfl rfl rfl (gj_step (y_assign rfl) rfl rfl rfl (gj_nil ?_)))
  refine ej_th (cj_ret ?_)
  exact ej_ret1 rfl Tryz.results12 rfl (fun w' hp => ⟨rfl, hp.below⟩)

theorem k_Check (l : List ClassV) (A : Option Addr) (c : Nat) (x : ItemV) (w : World) (hl : Rd w 4 encCl A l) (hgc : ∀ c ∈ l, GoodC w c) (hx : GoodI w x) : Calls Tryz.prog 13 #[.slice A l.length c, evI x] w (fun e w' => e = .returned (.int .i64 (askIE l [x])) ∧ Grow w w') := by
  refine enter_pure (args := [.slice A l.length c, evI x]) [sl (fun b => b < w.heap.size) 4 encCl A l] Tryz.func13 rfl (by rw [Tryz.ntmps13]; simp) (fun g hg => by simp at hg; subst hg; exact ⟨hl, fun _ h => h⟩) ?_
  refine cj_seq (cj_region ?_)
  refine oj_box rfl rfl rfl (fun b3 => ?_)
  refine oj_step (y_assign rfl) rfl rfl rfl ?_
  refine oj_nil ?_
  refine ej_th (cj_seq (cj_region ?_))
  refine oj_step (y_move rfl) rfl rfl rfl ?_
  refine oj_step (y_loadN Tryz.isAgg26 Tryz.sizeOf26 rfl) rfl rfl rfl ?_
  refine oj_buildSlice (cs := [.string x.cls, .slice x.As x.says.length x.cs, .slice x.Ap x.parts.length x.cp]) [.string ⟨#[]⟩, .slice none 0 0, .slice none 0 0] Tryz.underlying24 Tryz.sizeOf26 Tryz.zeroValue26 rfl rfl (by kernel_rfl) (by kernel_rfl) rfl (fun b10 => ?_)
  refine oj_litOw (b := b10) (e := 26) (c := 1) (sz := 3) (enc := encIt) [x] rfl rfl rfl (by unfold maxLen; simp) ?_
  refine oj_call (X := Nat) (fun m => .tuple #[.map (bif askIOk l [x] then some m else none), .int .i64 (askIE l [x])]) (fun _ => []) (fun m => bif askIOk l [x] then [mp ekS evC m (gramM l)] else []) Tryz.call27 rfl (fun w hp => by
    have h := k_pasked l A c [x] (some ⟨b10, 0, none⟩) 1 w hp.rd (fun c hc => (hgc c hc).mono hp.below) (hp.rdO (A := some ⟨b10, 0, none⟩) (fun _ => rfl) (by unfold maxLen; simp)) (fun y hy => by
      rw [List.mem_singleton.1 hy]
      exact hx.mono hp.below)
    exact h.mono fun e w' ⟨m, he, hg, hm⟩ => ⟨m, he, hg, by simp, by simp, fun f hf => by
      cases hok : askIOk l [x] with
      | false => rw [hok] at hf; cases hf
      | true =>
        rw [hok] at hf
        rw [List.mem_singleton.1 hf]
        have h3 := hm hok
        exact ⟨h3.1, fun i hi => by have : i = m := hi; subst this; exact ⟨h3.2.1, h3.2.2, by simp⟩⟩⟩) rfl (fun m11 => ?_)
  dsimp only [List.cons_append, List.nil_append]
  refine oj_step (y_move rfl) rfl rfl rfl ?_
  refine oj_step (y_extract rfl rfl) rfl rfl rfl ?_
  refine oj_step (y_extract rfl rfl) rfl rfl rfl ?_
  refine oj_step (y_assign rfl) rfl rfl rfl ?_
  refine oj_step (y_assign rfl) rfl rfl rfl ?_
  refine oj_nil ?_
  refine ej_th (cj_seq ?_)
  refine cj_regionG (gj_step (y_move rfl) rfl rfl rfl (gj_step (y_assign rfl) rfl rfl rfl (gj_nil ?_)))
  refine ej_th (cj_ret ?_)
  exact ej_ret1 rfl Tryz.results13 rfl (fun w' hp => ⟨rfl, hp.below⟩)

theorem k_Print (l : List ClassV) (A : Option Addr) (c : Nat) (x : ItemV) (w : World) (hl : Rd w 4 encCl A l) (hgc : ∀ c ∈ l, GoodC w c) (hx : GoodI w x) : Calls Tryz.prog 6 #[.slice A l.length c, evI x] w (fun e w' => e = .returned (.tuple #[.string (PrnT l x), .int .i64 (askIE l [x])]) ∧ Grow w w') := by
  refine enter_pure (args := [.slice A l.length c, evI x]) [sl (fun b => b < w.heap.size) 4 encCl A l] Tryz.func6 rfl (by rw [Tryz.ntmps6]; simp) (fun g hg => by simp at hg; subst hg; exact ⟨hl, fun _ h => h⟩) ?_
  refine cj_seq (cj_region ?_)
  refine oj_box rfl rfl rfl (fun b3 => ?_)
  refine oj_step (y_assign rfl) rfl rfl rfl ?_
  refine oj_step (y_assign rfl) rfl rfl rfl ?_
  refine oj_nil ?_
  refine ej_th (cj_seq (cj_region ?_))
  refine oj_step (y_move rfl) rfl rfl rfl ?_
  refine oj_step (y_loadN Tryz.isAgg26 Tryz.sizeOf26 rfl) rfl rfl rfl ?_
  refine oj_buildSlice (cs := [.string x.cls, .slice x.As x.says.length x.cs, .slice x.Ap x.parts.length x.cp]) [.string ⟨#[]⟩, .slice none 0 0, .slice none 0 0] Tryz.underlying24 Tryz.sizeOf26 Tryz.zeroValue26 rfl rfl (by kernel_rfl) (by kernel_rfl) rfl (fun b11 => ?_)
  refine oj_litOw (b := b11) (e := 26) (c := 1) (sz := 3) (enc := encIt) [x] rfl rfl rfl (by unfold maxLen; simp) ?_
  refine oj_call (X := Nat) (fun m => .tuple #[.map (bif askIOk l [x] then some m else none), .int .i64 (askIE l [x])]) (fun _ => []) (fun m => bif askIOk l [x] then [mp ekS evC m (gramM l)] else []) Tryz.call27 rfl (fun w hp => by
    have h := k_pasked l A c [x] (some ⟨b11, 0, none⟩) 1 w hp.rd (fun c hc => (hgc c hc).mono hp.below) (hp.rdO (A := some ⟨b11, 0, none⟩) (fun _ => rfl) (by unfold maxLen; simp)) (fun y hy => by
      rw [List.mem_singleton.1 hy]
      exact hx.mono hp.below)
    exact h.mono fun e w' ⟨m, he, hg, hm⟩ => ⟨m, he, hg, by simp, by simp, fun f hf => by
      cases hok : askIOk l [x] with
      | false => rw [hok] at hf; cases hf
      | true =>
        rw [hok] at hf
        rw [List.mem_singleton.1 hf]
        have h3 := hm hok
        exact ⟨h3.1, fun i hi => by have : i = m := hi; subst this; exact ⟨h3.2.1, h3.2.2, by simp⟩⟩⟩) rfl (fun m12 => ?_)
  dsimp only [List.cons_append, List.nil_append]
  refine oj_step (y_move rfl) rfl rfl rfl ?_
  refine oj_step (y_extract rfl rfl) rfl rfl rfl ?_
  refine oj_step (y_extract rfl rfl) rfl rfl rfl ?_
  refine oj_step (y_assign rfl) rfl rfl rfl ?_
  refine oj_step (y_assign rfl) rfl rfl rfl ?_
  refine oj_nil ?_
  refine ej_th (cj_seq (cj_seq ?_))
  refine cj_regionG (gj_step (y_move rfl) rfl rfl rfl (gj_step (y_neq rfl rfl) rfl rfl rfl (gj_nil ?_)))
  refine ej_th ?_
  refine cj_cond rfl (fun h16 => ?_) (fun h16 => ?_)
  · have h16b := h16
    try simp only [sxb] at h16
    have hno := askIE_no h16b
    refine cj_seq ?_
    refine cj_regionG (gj_step (y_move rfl) rfl rfl rfl (gj_step (y_assign rfl) rfl rfl rfl (gj_step (y_assign rfl) rfl rfl rfl (gj_nil ?_))))
    refine ej_th (cj_ret (ej_then_ret ?_))
    have hv : PrnT l x = ⟨#[]⟩ := by rw [PrnT, hno]; rfl
    exact ej_ret2 rfl Tryz.results6 rfl rfl (fun w' hp => ⟨by rw [hv], hp.below⟩)
  · have h16b := h16
    try simp only [sxb] at h16
    have hok := askIE_ok h16b
    obtain ⟨hoT, hcn⟩ := ask_T hok x (by simp)
    have hgO := ask_gram hok
    rw [hok]
    dsimp only [cond, List.cons_append, List.nil_append]
    refine cj_skip (ej_th (cj_seq ?_))
    refine cj_regionG ?_
    refine gj_step (y_move rfl) rfl rfl rfl (gj_step (y_loadN Tryz.isAgg26 Tryz.sizeOf26 rfl) rfl rfl rfl (?_))
    refine gj_step (y_call Tryz.call28 rfl (fun w hp => k_text x m12 (gramM l) w hp.mpS.1 (hp.mpS (b := m12) (ek := ekS) (ev := evC) (l := gramM l)).2 (fun p hp2 => (hgc p.2 (gramM_mem hp2)).mono hp.below) (hx.mono hp.below) hoT hcn)) rfl rfl rfl ?_
    refine gj_step (y_assign rfl) rfl rfl rfl (gj_step (y_assign rfl) rfl rfl rfl (?_))
    refine gj_nil ?_
    refine ej_th (cj_ret ?_)
    have hv : PrnT l x = txtT (gramM l) x.pl := by rw [PrnT, hok]; rfl
    have hz : askIE l [x] = 0 := by simpa using h16b
    exact ej_ret2 rfl Tryz.results6 rfl rfl (fun w' hp => ⟨by rw [hv, hz], hp.below⟩)

end Go.Proofs.YtlfbghkcfmcnlaaGreatDoor
namespace Go.Proofs.YtlfbghkcfmcnlaaGreatDoor
open Go.Sx Go.RowKit
set_option maxRecDepth 20000

end Go.Proofs.YtlfbghkcfmcnlaaGreatDoor
namespace Go.Proofs.YtlfbghkcfmcnlaaGreatDoor
open Go.Sx Go.RowKit
set_option maxRecDepth 20000
theorem k_Sort (l : List ClassV) (A : Option Addr) (c : Nat) (x : ItemV) (w : World) (hl : Rd w 4 encCl A l) (hgc : ∀ c ∈ l, GoodC w c) (hx : GoodI w x) : Calls Tryz.prog 40 #[.slice A l.length c, evI x] w (fun e w' => ∃ y : ItemV, e = .returned (.tuple #[evI y, .int .i64 (askIE l [x])]) ∧ Grow w w' ∧ y.pl = SrtT l x ∧ GoodF (fun i => w.heap.size ≤ i ∧ i < w'.heap.size) w' y) := by
  refine enter_pure (args := [.slice A l.length c, evI x]) [sl (fun b => b < w.heap.size) 4 encCl A l] Tryz.func40 rfl (by rw [Tryz.ntmps40]; simp) (fun g hg => by simp at hg; subst hg; exact ⟨hl, fun _ h => h⟩) ?_
  refine cj_seq (cj_region ?_)
  refine oj_box rfl rfl rfl (fun b3 => ?_)
  refine oj_alloc Tryz.zeroValue26 rfl rfl (fun b4 => ?_)
  refine oj_step (y_assign rfl) rfl rfl rfl ?_
  refine oj_nil ?_
  refine ej_th (cj_seq (cj_region ?_))
  refine oj_step (y_move rfl) rfl rfl rfl ?_
  refine oj_step (y_loadN Tryz.isAgg26 Tryz.sizeOf26 rfl) rfl rfl rfl ?_
  refine oj_buildSlice (cs := [.string x.cls, .slice x.As x.says.length x.cs, .slice x.Ap x.parts.length x.cp]) [.string ⟨#[]⟩, .slice none 0 0, .slice none 0 0] Tryz.underlying24 Tryz.sizeOf26 Tryz.zeroValue26 rfl rfl (by kernel_rfl) (by kernel_rfl) rfl (fun b11 => ?_)
  refine oj_litOw (b := b11) (e := 26) (c := 1) (sz := 3) (enc := encIt) [x] rfl rfl rfl (by unfold maxLen; simp) ?_
  refine oj_call (X := Nat) (fun m => .tuple #[.map (bif askIOk l [x] then some m else none), .int .i64 (askIE l [x])]) (fun _ => []) (fun m => bif askIOk l [x] then [mp ekS evC m (gramM l)] else []) Tryz.call27 rfl (fun w hp => by
    have h := k_pasked l A c [x] (some ⟨b11, 0, none⟩) 1 w hp.rd (fun c hc => (hgc c hc).mono hp.below) (hp.rdO (A := some ⟨b11, 0, none⟩) (fun _ => rfl) (by unfold maxLen; simp)) (fun y hy => by
      rw [List.mem_singleton.1 hy]
      exact hx.mono hp.below)
    exact h.mono fun e w' ⟨m, he, hg, hm⟩ => ⟨m, he, hg, by simp, by simp, fun f hf => by
      cases hok : askIOk l [x] with
      | false => rw [hok] at hf; cases hf
      | true =>
        rw [hok] at hf
        rw [List.mem_singleton.1 hf]
        have h3 := hm hok
        exact ⟨h3.1, fun i hi => by have : i = m := hi; subst this; exact ⟨h3.2.1, h3.2.2, by simp⟩⟩⟩) rfl (fun m12 => ?_)
  dsimp only [List.cons_append, List.nil_append]
  refine oj_step (y_move rfl) rfl rfl rfl ?_
  refine oj_step (y_extract rfl rfl) rfl rfl rfl ?_
  refine oj_step (y_extract rfl rfl) rfl rfl rfl ?_
  refine oj_step (y_assign rfl) rfl rfl rfl ?_
  refine oj_step (y_assign rfl) rfl rfl rfl ?_
  refine oj_nil ?_
  refine ej_th (cj_seq (cj_seq ?_))
  refine cj_regionG (gj_step (y_move rfl) rfl rfl rfl (gj_step (y_neq rfl rfl) rfl rfl rfl (gj_nil ?_)))
  refine ej_th ?_
  refine cj_cond rfl (fun h16 => ?_) (fun h16 => ?_)
  · have h16b := h16
    try simp only [sxb] at h16
    have hno := askIE_no h16b
    refine cj_seq (cj_region ?_)
    refine oj_step (y_build st26 rfl rfl) rfl rfl rfl ?_
    refine oj_step (y_move rfl) rfl rfl rfl ?_
    refine oj_store rfl rfl rfl rfl Tryz.sizeOf26 rfl ?_
    refine oj_step (y_assign rfl) rfl rfl rfl ?_
    refine oj_nil ?_
    refine ej_th (cj_ret (ej_then_ret ?_))
    exact ej_retC2 rfl Tryz.results40 rfl (y_loadN Tryz.isAgg26 Tryz.sizeOf26 rfl) rfl (fun w' hp => ⟨.mk ⟨#[]⟩ none 0 [] none 0 [], rfl, hp.below, by rw [SrtT, hno]; rfl, .mk Res.nil Res.nil (by decide) (fun s hs => by cases hs) (fun p hp => by cases hp)⟩)
  · have h16b := h16
    try simp only [sxb] at h16
    have hok := askIE_ok h16b
    obtain ⟨hoT, hcn⟩ := ask_T hok x (by simp)
    have hgO := ask_gram hok
    rw [hok]
    dsimp only [cond, List.cons_append, List.nil_append]
    refine cj_skip (ej_th (cj_seq (cj_region ?_)))
    refine oj_step (y_move rfl) rfl rfl rfl ?_
    refine oj_step (y_loadN Tryz.isAgg26 Tryz.sizeOf26 rfl) rfl rfl rfl ?_
    refine oj_call (X := { z : ItemV × Nat × Nat // z.1.pl = sortT (gramM l) x.pl ∧ w.heap.size ≤ z.2.1 }) (fun z => evI z.1.1) (fun _ => []) (fun z => [itF (fun i => z.1.2.1 ≤ i ∧ i < z.1.2.2) [z.1.1]]) Tryz.call77 rfl (fun w1 hp => (k_sorted hx w1 hp.below hp.mpS.1 (hp.mpS (b := m12) (ek := ekS) (ev := evC) (l := gramM l)).2 (fun p hp2 => (hgc p.2 (gramM_mem hp2)).mono hp.below) hoT hcn).mono fun e w2 ⟨y, he, hg, hy, hG⟩ => ⟨⟨(y, w1.heap.size, w2.heap.size), hy, hp.size⟩, he, hg, by simp, by simp, fun f hf => by
      rw [List.mem_singleton.1 hf]
      exact ⟨fun z hz => by rw [List.mem_singleton.1 hz]; exact hG, fun i hi => ⟨hi.1, hi.2, by simp⟩⟩⟩) rfl ?_
    rintro ⟨⟨y, n1, n2⟩, hy, hn1⟩
    dsimp only [List.cons_append, List.nil_append] at hy hn1 ⊢
    refine oj_store rfl rfl rfl rfl Tryz.sizeOf26 rfl ?_
    refine oj_step (y_assign rfl) rfl rfl rfl ?_
    refine oj_nil ?_
    refine ej_th (cj_ret ?_)
    have hz : askIE l [x] = 0 := by simpa using h16b
    exact ej_retC2 rfl Tryz.results40 rfl (y_loadN Tryz.isAgg26 Tryz.sizeOf26 rfl) rfl (fun w' hp => ⟨y, by rw [hz], hp.below, by rw [SrtT, hok, hy]; rfl, ((hp.shared _ (.head _)).1 y (List.mem_cons_self ..)).fp (fun i hi => ⟨Nat.le_trans hn1 hi.1, (hp.shared _ (.head _)).2.1 i hi⟩)⟩)

set_option maxHeartbeats 1000000 in
theorem k_Count (l : List ClassV) (A : Option Addr) (c : Nat) (x : ItemV) (w : World) (hl : Rd w 4 encCl A l) (hgc : ∀ c ∈ l, GoodC w c) (hx : GoodI w x) : Calls Tryz.prog 39 #[.slice A l.length c, evI x] w (fun e w' => e = .returned (.tuple #[.int .i64 (CntI l x), .int .i64 (CntS l x), .int .i64 (askIE l [x])]) ∧ Grow w w') := by
  refine enter_pureM (args := [.slice A l.length c, evI x]) [sl (fun b => b < w.heap.size) 4 encCl A l] Tryz.func39 rfl (by rw [Tryz.ntmps39]; simp) (fun g hg => by simp at hg; subst hg; exact ⟨hl, fun _ h => h⟩) ?_
  refine cj_seq (cj_region ?_)
  refine oj_box rfl rfl rfl (fun b3 => ?_)
  refine oj_alloc Tryz.zeroValue3 rfl rfl (fun b4 => ?_)
  refine oj_alloc Tryz.zeroValue3 rfl rfl (fun b5 => ?_)
  refine oj_step (y_assign rfl) rfl rfl rfl ?_
  refine oj_nil ?_
  refine ej_th (cj_seq (cj_seq (cj_region ?_)))
  refine oj_step (y_move rfl) rfl rfl rfl ?_
  refine oj_step (y_loadN Tryz.isAgg26 Tryz.sizeOf26 rfl) rfl rfl rfl ?_
  refine oj_buildSlice (cs := [.string x.cls, .slice x.As x.says.length x.cs, .slice x.Ap x.parts.length x.cp]) [.string ⟨#[]⟩, .slice none 0 0, .slice none 0 0] Tryz.underlying24 Tryz.sizeOf26 Tryz.zeroValue26 rfl rfl (by kernel_rfl) (by kernel_rfl) rfl (fun b15 => ?_)
  refine oj_litOw (b := b15) (e := 26) (c := 1) (sz := 3) (enc := encIt) [x] rfl rfl rfl (by unfold maxLen; simp) ?_
  refine oj_call (X := Nat) (fun m => .tuple #[.map (bif askIOk l [x] then some m else none), .int .i64 (askIE l [x])]) (fun _ => []) (fun m => bif askIOk l [x] then [mp ekS evC m (gramM l)] else []) Tryz.call27 rfl (fun w hp => by
    have h := k_pasked l A c [x] (some ⟨b15, 0, none⟩) 1 w hp.rd (fun c hc => (hgc c hc).mono hp.below) (hp.rdO (A := some ⟨b15, 0, none⟩) (fun _ => rfl) (by unfold maxLen; simp)) (fun y hy => by
      rw [List.mem_singleton.1 hy]
      exact hx.mono hp.below)
    exact h.mono fun e w' ⟨m, he, hg, hm⟩ => ⟨m, he, hg, by simp, by simp, fun f hf => by
      cases hok : askIOk l [x] with
      | false => rw [hok] at hf; cases hf
      | true =>
        rw [hok] at hf
        rw [List.mem_singleton.1 hf]
        have h3 := hm hok
        exact ⟨h3.1, fun i hi => by have : i = m := hi; subst this; exact ⟨h3.2.1, h3.2.2, by simp⟩⟩⟩) rfl (fun m16 => ?_)
  dsimp only [List.cons_append, List.nil_append]
  refine oj_step (y_move rfl) rfl rfl rfl ?_
  refine oj_step (y_extract rfl rfl) rfl rfl rfl ?_
  refine oj_step (y_extract rfl rfl) rfl rfl rfl ?_
  refine oj_step (y_assign rfl) rfl rfl rfl ?_
  refine oj_step (y_assign rfl) rfl rfl rfl ?_
  refine oj_nil ?_
  refine ej_th (cj_seq ?_)
  refine cj_regionG (gj_step (y_move rfl) rfl rfl rfl (gj_step (y_neq rfl rfl) rfl rfl rfl (gj_nil ?_)))
  refine ej_th ?_
  refine cj_cond rfl (fun h20 => ?_) (fun h20 => ?_)
  · have h20b := h20
    try simp only [sxb] at h20
    have hno := askIE_no h20b
    refine cj_seq (cj_region ?_)
    refine oj_step (y_move rfl) rfl rfl rfl ?_
    refine oj_store rfl rfl rfl rfl Tryz.sizeOf3 rfl ?_
    refine oj_store rfl rfl rfl rfl Tryz.sizeOf3 rfl ?_
    refine oj_step (y_assign rfl) rfl rfl rfl ?_
    refine oj_nil ?_
    refine ej_th (cj_ret (ej_then_ret ?_))
    exact ej_retMC0 rfl Tryz.results39 rfl (y_load1 Tryz.isAgg3 rfl rfl) rfl (y_load1 Tryz.isAgg3 rfl rfl) rfl (fun w' hp => ⟨by rw [CntI, CntS, hno]; rfl, hp.below⟩)
  · have h20b := h20
    try simp only [sxb] at h20
    have hok := askIE_ok h20b
    obtain ⟨hoT, hcn⟩ := ask_T hok x (by simp)
    have hgO := ask_gram hok
    rw [hok]
    dsimp only [cond, List.cons_append, List.nil_append]
    have hal : x.all.length ≤ 24 := by have := all_len x; omega
    have h8 := says8 x hoT
    refine cj_skip (ej_th (cj_seq (cj_seq (cj_region ?_))))
    refine oj_step (y_loadN Tryz.isAgg26 Tryz.sizeOf26 rfl) rfl rfl rfl ?_
    refine oj_call (X := Nat) (fun z => .func (.func 89) #[] #[.pointer (some ⟨z, 0, none⟩)]) (fun _ => []) (fun z => [ownB z (cellsB 26 [.string x.cls, .slice x.As x.says.length x.cs, .slice x.Ap x.parts.length x.cp])]) Tryz.call76 rfl (fun w hp => k_all x w) rfl (fun bx => ?_)
    dsimp only [List.nil_append, List.cons_append]
    refine oj_nil ?_
    refine ej_th (cj_block ?_)
    refine cj_addS (itF (fun b => b < w.heap.size) [x]) (fun w1 hp => ⟨fun z hz => (by rw [List.mem_singleton.1 hz]; exact hx.goodF.stab (fun b hb => (hp.fr b hb).2)), fun b hb => ⟨Nat.lt_of_lt_of_le hb hp.size, fun o ho hob => ((hp.own o ho).2 b hob).2 hb⟩⟩) ?_
    refine cj_eqO [ow 26 3 encIt (some ⟨b15, 0, none⟩) 1 [x], ownB b5 (cellsB 3 [.int .i64 (sdAll (x.all.take 0))]), ownB b4 (cellsB 3 [.int .i64 ((0 : Nat) : Int)]), ownB b3 (cellsB 26 [.string x.cls, .slice x.As x.says.length x.cs, .slice x.Ap x.parts.length x.cp])] rfl ?_
    refine cj_rangeX (k_allIter x hx bx (fun b => b < w.heap.size)) (Y := Nat) (Z := Empty) (fun _ _ => True) (fun k _ => [ownB b5 (cellsB 3 [.int .i64 (sdAll (x.all.take k))]), ownB b4 (cellsB 3 [.int .i64 (k : Nat)]), ownB b3 (cellsB 26 [.string x.cls, .slice x.As x.says.length x.cs, .slice x.Ap x.parts.length x.cp])]) Empty.elim Empty.elim 0 trivial rfl Tryz.call89 (fun _ => rfl) rfl ?_ ?_ ?_
    · rintro Xs lo Db r0 r1 k q - hq -
      have hkl : k < x.all.length := (List.getElem?_eq_some_iff.1 hq).1
      have hq8 := h8 q (List.mem_of_getElem? hq)
      have hsk := sdAll_bd (x.all.take k) (fun r hr => h8 r (List.mem_of_mem_take hr))
      have hkt : (x.all.take k).length ≤ 24 := by rw [List.length_take]; omega
      dsimp only [List.cons_append, List.nil_append]
      refine cj_region ?_
      refine oj_alloc Tryz.zeroValue26 rfl rfl (fun b9 => ?_)
      refine oj_store rfl rfl rfl rfl Tryz.sizeOf26 rfl ?_
      refine oj_nil ?_
      refine ej_beg (cj_block (cj_seq (cj_region ?_)))
      refine oj_step (y_load1 Tryz.isAgg3 rfl rfl) rfl rfl rfl ?_
      refine oj_step (y_add rfl rfl (by omega)) rfl rfl rfl ?_
      refine oj_store rfl rfl rfl rfl Tryz.sizeOf3 rfl ?_
      refine oj_nil ?_
      refine ej_th (cj_seq ?_)
      refine cj_addS (sl (fun b => b < w.heap.size) 1 enStr q.As q.says) (fun w1 hp => ⟨(((hp.shared _ (.head _)).1 x (List.mem_cons_self ..)).all q (List.mem_of_getElem? hq)).hs, fun b hb => ⟨(hp.shared _ (.head _)).2.1 b hb, fun o ho => (hp.shared _ (.head _)).2.2 o ho b hb⟩⟩) ?_
      refine cj_regionG (gj_step (y_fa fa26_1 rfl) rfl rfl rfl (gj_step (y_load1 Tryz.isAgg23 rfl rfl) rfl rfl rfl (gj_step (y_lenA Tryz.underlying23 rfl) rfl rfl rfl (gj_step (y_move rfl) rfl rfl rfl (gj_nil ?_)))))
      refine ej_th (cj_block ?_)
      rw [show sdAll (x.all.take k) = sdAll (x.all.take k) + saidN (q.says.take 0) by simp [saidN]]
      refine cj_lpi (X := Nat) [(4, _), (5, _), (6, _), (28, _), (29, _)] (fun j => j ≤ q.says.length) (fun j => [(30, .int .i64 j)]) (fun j => ownB b9 (cellsB 26 [.string q.cls, .slice q.As q.says.length q.cs, .slice q.Ap q.parts.length q.cp]) :: ownB lo r1 :: ownB Db (.deferred (some [])) :: [ownB b5 (cellsB 3 [.int .i64 (sdAll (x.all.take k) + saidN (q.says.take j))]), ownB b4 (cellsB 3 [.int .i64 (((k : Nat) : Int) + 1)]), ownB b3 (cellsB 26 [.string x.cls, .slice x.As x.says.length x.cs, .slice x.Ap x.parts.length x.cp])]) (fun j => (sl (fun b => b < w.heap.size) 1 enStr q.As q.says :: itF (fun b => b < w.heap.size) [x] :: ownB bx (cellsB 26 [.string x.cls, .slice x.As x.says.length x.cs, .slice x.Ap x.parts.length x.cp]) :: mp ekS evC m16 (gramM l) :: sl (fun b => b < w.heap.size) 4 encCl A l :: Xs)) (fun j => q.says.length - j) 0 (Nat.zero_le _) ⟨rfl, rfl, rfl, rfl, rfl, rfl, trivial⟩ ?_
      rintro j hj
      dsimp only [List.cons_append, List.nil_append]
      refine cj_seq ?_
      refine cj_regionG (gj_step (y_lss rfl rfl) rfl rfl rfl (gj_nil ?_))
      refine ej_th (cj_seq ?_)
      refine cj_cond rfl (fun h31 => ?_) (fun h31 => ?_)
      · have h31b := h31
        try simp only [sxb] at h31
        obtain ⟨s, hs⟩ : ∃ s, q.says[j]? = some s := ⟨_, List.getElem?_eq_getElem (by omega)⟩
        have hst := saidN_take q.says j s hs
        have hsb := saidN_bd (q.says.take j)
        have hsl : (q.says.take j).length ≤ 8 := by rw [List.length_take]; omega
        refine cj_skip (ej_th (cj_seq (cj_block (cj_seq ?_))))
        refine cj_regionG (gj_step (y_ixR (reads_sl) Tryz.underlying23 Tryz.sizeOf9 rfl rfl (⟨by omega, by omega⟩)) rfl rfl rfl (gj_step (y_ld0 (reads_sl) Tryz.isAgg9 rfl (hs) rfl) rfl rfl rfl (gj_step (y_assign rfl) rfl rfl rfl (gj_nil ?_))))
        refine ej_th (cj_seq ?_)
        refine cj_regionG (gj_step (y_move rfl) rfl rfl rfl (gj_step (y_neqS rfl rfl) rfl rfl rfl (gj_nil ?_)))
        refine ej_th ?_
        refine cj_cond rfl (fun h35 => ?_) (fun h35 => ?_)
        · have h35b := h35
          try simp only [sxb] at h35
          rw [if_neg (show ¬ (s == (⟨#[]⟩ : ByteArray)) = true by rw [not_t h35b]; simp)] at hst
          refine cj_region ?_
          refine oj_step (y_load1 Tryz.isAgg3 rfl rfl) rfl rfl rfl ?_
          refine oj_step (y_add rfl rfl (by omega)) rfl rfl rfl ?_
          refine oj_store rfl rfl rfl rfl Tryz.sizeOf3 rfl ?_
          refine oj_nil ?_
          refine ej_blk (ej_th ?_)
          refine cj_regionG (gj_step (y_add rfl rfl (by omega)) rfl rfl rfl (gj_step (y_move rfl) rfl rfl rfl (gj_nil ?_)))
          rw [show sdAll (x.all.take k) + saidN (q.says.take j) + 1 = sdAll (x.all.take k) + saidN (q.says.take (j + 1)) by omega]
          exact ej_nx (j + 1) (by omega) (by omega) ⟨rfl, rfl, rfl, rfl, rfl, rfl, trivial⟩
        · have h35b := h35
          try simp only [sxb] at h35
          rw [if_pos (not_f h35b)] at hst
          refine cj_skip (ej_blk (ej_th ?_))
          refine cj_regionG (gj_step (y_add rfl rfl (by omega)) rfl rfl rfl (gj_step (y_move rfl) rfl rfl rfl (gj_nil ?_)))
          rw [show saidN (q.says.take j) = saidN (q.says.take (j + 1)) by omega]
          exact ej_nx (j + 1) (by omega) (by omega) ⟨rfl, rfl, rfl, rfl, rfl, rfl, trivial⟩
      · have h31b := h31
        try simp only [sxb] at h31
        have hje : q.says.take j = q.says := List.take_of_length_le (by omega)
        rw [hje]
        refine cj_exit (ej_then_exit (ej_then_exit (ej_blk_hit (ej_blk ?_))))
        rw [← sdAll_take x.all k q hq, show ((k : Nat) : Int) + 1 = ((k + 1 : Nat) : Int) by omega]
        exact ej_rdS 0 trivial (fun f h => List.mem_cons_of_mem _ h)
    · rintro Db - -
      rw [List.take_length, all_said, all_len]
      refine ej_blk (ej_th (cj_seq ?_))
      refine cj_plan 5 (by kernel_rfl) (by kernel_rfl) ?_
      refine pl_y 0 rfl (y_load1 Tryz.isAgg3 rfl rfl) rfl rfl rfl rfl (by kernel_rfl) ?_
      refine pl_y 1 rfl (y_load1 Tryz.isAgg3 rfl rfl) rfl rfl rfl rfl (by kernel_rfl) ?_
      refine pl_w1 2 (by kernel_rfl) rfl rfl (pl_fire rfl rfl rfl (by kernel_rfl) ?_)
      refine oj_store rfl rfl rfl rfl Tryz.sizeOf3 rfl ?_
      refine oj_nil ?_
      refine ej_pl (lt_y (y_load1 Tryz.isAgg3 rfl rfl) rfl (lt_w (by kernel_rfl) (lt_nil))) ?_
      refine pl_w1 3 (by kernel_rfl) rfl rfl (pl_fire rfl rfl rfl (by kernel_rfl) ?_)
      refine oj_store rfl rfl rfl rfl Tryz.sizeOf3 rfl ?_
      refine oj_nil ?_
      refine ej_pl (lt_w (by kernel_rfl) (lt_w (by kernel_rfl) (lt_nil))) ?_
      refine pl_y 4 rfl (y_assign rfl) rfl rfl rfl rfl (by kernel_rfl) ?_
      refine pl_end (by kernel_rfl) ?_
      refine ej_th (cj_ret ?_)
      have hz : askIE l [x] = 0 := by simpa using h20b
      exact ej_retMC1 rfl Tryz.results39 rfl (y_load1 Tryz.isAgg3 rfl rfl) rfl (y_load1 Tryz.isAgg3 rfl rfl) rfl (fun w' hp => ⟨by rw [CntI, CntS, hok, hz]; rfl, hp.below⟩)
    · intro Db z; exact z.elim

end Go.Proofs.YtlfbghkcfmcnlaaGreatDoor
namespace Go.Proofs.YtlfbghkcfmcnlaaGreatDoor
open Go.Sx Go.RowKit
set_option maxRecDepth 20000
theorem fa63_0 : FieldIs Tryz.prog 63 0 0 1 false := ⟨⟨_, _, Tryz.underlying63, rfl, rfl, Tryz.sizeOf54, Tryz.isAgg54, by decide⟩⟩
theorem fa70_0 : FieldIs Tryz.prog 70 0 0 1 false := ⟨⟨_, _, Tryz.underlying70, rfl, rfl, Tryz.sizeOf3, Tryz.isAgg3, by decide⟩⟩
theorem fa70_1 : FieldIs Tryz.prog 70 1 1 1 false := ⟨⟨_, _, Tryz.underlying70, rfl, rfl, Tryz.sizeOf3, Tryz.isAgg3, by decide⟩⟩
theorem fa98_0 : FieldIs Tryz.prog 98 0 0 1 false := ⟨⟨_, _, Tryz.underlying98, rfl, rfl, Tryz.sizeOf3, Tryz.isAgg3, by decide⟩⟩
theorem fa98_1 : FieldIs Tryz.prog 98 1 1 1 false := ⟨⟨_, _, Tryz.underlying98, rfl, rfl, Tryz.sizeOf3, Tryz.isAgg3, by decide⟩⟩
end Go.Proofs.YtlfbghkcfmcnlaaGreatDoor
namespace Go.Proofs.YtlfbghkcfmcnlaaGreatDoor
open Go.Sx Go.RowKit
set_option maxRecDepth 20000
theorem k_clR (n : Int) (w : World)  : Calls Tryz.prog 79 #[.int .i64 n] w (fun e w' => e = .returned (.bool (!(rd1 n))) ∧ Grow w w') := by
  refine enter_pure (args := [.int .i64 n]) [] Tryz.func79 rfl (by rw [Tryz.ntmps79]; simp) (by simp) ?_
  refine cj_seq ?_
  refine cj_regionG (gj_step (y_assign rfl) rfl rfl rfl (gj_nil ?_))
  refine ej_th (cj_seq ?_)
  refine cj_regionG ?_
  refine gj_step (y_move rfl) rfl rfl rfl (?_)
  refine gj_step (y_call Tryz.call45 rfl (fun w hp => k_within1 _ _ _ w)) rfl rfl rfl ?_
  refine gj_step (y_not rfl) rfl rfl rfl (gj_step (y_assign rfl) rfl rfl rfl (?_))
  refine gj_nil ?_
  refine ej_th (cj_ret ?_)
  exact ej_ret1 rfl Tryz.results79 rfl (fun w' hp => ⟨rfl, hp.below⟩)

theorem k_clP (n : Int) (w : World)  : Calls Tryz.prog 53 #[.int .i64 n] w (fun e w' => e = .returned (.bool (!(prc1 n))) ∧ Grow w w') := by
  refine enter_pure (args := [.int .i64 n]) [] Tryz.func53 rfl (by rw [Tryz.ntmps53]; simp) (by simp) ?_
  refine cj_seq ?_
  refine cj_regionG (gj_step (y_assign rfl) rfl rfl rfl (gj_nil ?_))
  refine ej_th (cj_seq ?_)
  refine cj_regionG ?_
  refine gj_step (y_move rfl) rfl rfl rfl (?_)
  refine gj_step (y_call Tryz.call45 rfl (fun w hp => k_within1 _ _ _ w)) rfl rfl rfl ?_
  refine gj_step (y_not rfl) rfl rfl rfl (gj_step (y_assign rfl) rfl rfl rfl (?_))
  refine gj_nil ?_
  refine ej_th (cj_ret ?_)
  exact ej_ret1 rfl Tryz.results53 rfl (fun w' hp => ⟨rfl, hp.below⟩)

theorem k_id (n : Int) (w : World)  : Calls Tryz.prog 55 #[.int .i64 n] w (fun e w' => e = .returned (.int .i64 n) ∧ Grow w w') := by
  refine enter_pure (args := [.int .i64 n]) [] Tryz.func55 rfl (by rw [Tryz.ntmps55]; simp) (by simp) ?_
  refine cj_seq ?_
  refine cj_regionG (gj_step (y_assign rfl) rfl rfl rfl (gj_nil ?_))
  refine ej_th (cj_seq ?_)
  refine cj_regionG (gj_step (y_move rfl) rfl rfl rfl (gj_step (y_assign rfl) rfl rfl rfl (gj_nil ?_)))
  refine ej_th (cj_ret ?_)
  exact ej_ret1 rfl Tryz.results55 rfl (fun w' hp => ⟨rfl, hp.below⟩)

theorem k_IndexFR (l : List Int) (A : Option Addr) (c : Nat) (w : World) (hl : Rd w 1 enInt A l) : Calls Tryz.prog 82 #[.slice A l.length c, .func (.func 79) #[] #[]] w (fun e w' => e = .returned (.int .i64 (firstBad l 0)) ∧ Grow w w') := by
  have hlen := hl.len
  refine enter_pure (args := [.slice A l.length c, .func (.func 79) #[] #[]]) [sl (fun b => b < w.heap.size) 1 enInt A l] Tryz.func82 rfl (by rw [Tryz.ntmps82]; simp) (fun g hg => by simp at hg; subst hg; exact ⟨hl, fun _ h => h⟩) ?_
  refine cj_seq ?_
  refine cj_regionG (gj_step (y_assign rfl) rfl rfl rfl (gj_nil ?_))
  refine ej_th (cj_seq (cj_seq ?_))
  refine cj_regionG (gj_step (y_move rfl) rfl rfl rfl (gj_step (y_lenA Tryz.underlying49 rfl) rfl rfl rfl (gj_step (y_move rfl) rfl rfl rfl (gj_nil ?_))))
  refine ej_th (cj_block ?_)
  refine cj_lpic (X := Nat) [(0, _), (1, _), (7, _)] (fun k => k ≤ l.length ∧ firstBad (l.drop k) k = firstBad l 0) (fun k => [(8, .int .i64 k)]) (fun k => l.length - k) 0 (⟨Nat.zero_le _, rfl⟩) ⟨rfl, rfl, rfl, rfl, trivial⟩ ?_
  rintro k ⟨hk, hsk⟩
  dsimp only [List.cons_append, List.nil_append]
  refine cj_seq ?_
  refine cj_regionG (gj_step (y_lss rfl rfl) rfl rfl rfl (gj_nil ?_))
  refine ej_th (cj_seq ?_)
  refine cj_cond rfl (fun h9 => ?_) (fun h9 => ?_)
  · have h9b := h9
    try simp only [sxb] at h9
    obtain ⟨x, hx⟩ : ∃ x, l[k]? = some x := ⟨_, List.getElem?_eq_getElem (by omega)⟩
    rw [firstBad_drop l k x hx] at hsk
    refine cj_skip (ej_th (cj_seq (cj_block (cj_seq ?_))))
    refine cj_regionG (gj_step (y_move rfl) rfl rfl rfl (gj_step (y_assign rfl) rfl rfl rfl (gj_nil ?_)))
    refine ej_th (cj_seq ?_)
    refine cj_regionG ?_
    refine gj_step (y_move rfl) rfl rfl rfl (gj_step (y_move rfl) rfl rfl rfl (gj_step (y_move rfl) rfl rfl rfl (gj_step (y_ixR (reads_sl) Tryz.underlying49 Tryz.sizeOf3 rfl rfl (⟨by omega, by omega⟩)) rfl rfl rfl (gj_step (y_ld0 (reads_sl) Tryz.isAgg3 rfl (hx) rfl) rfl rfl rfl (?_)))))
    refine gj_step (y_callV Tryz.call79 rfl rfl (fun w hp => k_clR x w)) rfl rfl rfl ?_
    refine gj_nil ?_
    refine ej_th ?_
    refine cj_cond rfl (fun h16 => ?_) (fun h16 => ?_)
    · have h16b := h16
      try simp only [sxb] at h16
      refine cj_seq ?_
      refine cj_regionG (gj_step (y_move rfl) rfl rfl rfl (gj_step (y_assign rfl) rfl rfl rfl (gj_nil ?_)))
      refine ej_th (cj_ret (ej_blk_ret (ej_then_ret (ej_then_ret (ej_blk_ret (ej_then_ret ?_))))))
      refine ej_ret1 rfl Tryz.results82 rfl (fun w' hp => ⟨?_, hp.below⟩)
      rw [← hsk, if_pos h16]
    · have h16b := h16
      try simp only [sxb] at h16
      refine cj_skip (ej_blk (ej_th ?_))
      refine cj_regionG (gj_step (y_add rfl rfl (by omega)) rfl rfl rfl (gj_step (y_move rfl) rfl rfl rfl (gj_nil ?_)))
      exact ej_nx (k + 1) (by omega) ⟨by omega, by rw [← hsk, if_neg (by simp [h16])]⟩ ⟨rfl, rfl, rfl, rfl, trivial⟩
  · have h9b := h9
    try simp only [sxb] at h9
    refine cj_exit (ej_then_exit (ej_then_exit (ej_blk_hit (ej_th (cj_seq ?_)))))
    refine cj_regionG (gj_step (y_assign rfl) rfl rfl rfl (gj_nil ?_))
    refine ej_th (cj_ret ?_)
    refine ej_ret1 rfl Tryz.results82 rfl (fun w' hp => ⟨?_, hp.below⟩)
    rw [← hsk, List.drop_of_length_le (by omega)]; rfl

theorem k_ContainsFR (l : List Int) (A : Option Addr) (c : Nat) (w : World) (hl : Rd w 1 enInt A l) : Calls Tryz.prog 52 #[.slice A l.length c, .func (.func 79) #[] #[]] w (fun e w' => e = .returned (.bool (!(l.all rd1))) ∧ Grow w w') := by
  refine enter_pure (args := [.slice A l.length c, .func (.func 79) #[] #[]]) [sl (fun b => b < w.heap.size) 1 enInt A l] Tryz.func52 rfl (by rw [Tryz.ntmps52]; simp) (fun g hg => by simp at hg; subst hg; exact ⟨hl, fun _ h => h⟩) ?_
  refine cj_seq ?_
  refine cj_regionG (gj_step (y_assign rfl) rfl rfl rfl (gj_nil ?_))
  refine ej_th (cj_seq ?_)
  refine cj_regionG ?_
  refine gj_step (y_move rfl) rfl rfl rfl (gj_step (y_move rfl) rfl rfl rfl (?_))
  refine gj_step (y_call Tryz.call82 rfl (fun w hp => k_IndexFR l A c w hp.rd)) rfl rfl rfl ?_
  refine gj_step (y_geq rfl rfl) rfl rfl rfl (gj_step (y_assign rfl) rfl rfl rfl (?_))
  refine gj_nil ?_
  refine ej_th (cj_ret ?_)
  refine ej_ret1 rfl Tryz.results52 rfl (fun w' hp => ⟨?_, hp.below⟩)
  rw [firstBad_all]

theorem k_IndexFP (l : List Int) (A : Option Addr) (c : Nat) (w : World) (hl : Rd w 1 enInt A l) : Calls Tryz.prog 82 #[.slice A l.length c, .func (.func 53) #[] #[]] w (fun e w' => e = .returned (.int .i64 (firstPrc l 0)) ∧ Grow w w') := by
  have hlen := hl.len
  refine enter_pure (args := [.slice A l.length c, .func (.func 53) #[] #[]]) [sl (fun b => b < w.heap.size) 1 enInt A l] Tryz.func82 rfl (by rw [Tryz.ntmps82]; simp) (fun g hg => by simp at hg; subst hg; exact ⟨hl, fun _ h => h⟩) ?_
  refine cj_seq ?_
  refine cj_regionG (gj_step (y_assign rfl) rfl rfl rfl (gj_nil ?_))
  refine ej_th (cj_seq (cj_seq ?_))
  refine cj_regionG (gj_step (y_move rfl) rfl rfl rfl (gj_step (y_lenA Tryz.underlying49 rfl) rfl rfl rfl (gj_step (y_move rfl) rfl rfl rfl (gj_nil ?_))))
  refine ej_th (cj_block ?_)
  refine cj_lpic (X := Nat) [(0, _), (1, _), (7, _)] (fun k => k ≤ l.length ∧ firstPrc (l.drop k) k = firstPrc l 0) (fun k => [(8, .int .i64 k)]) (fun k => l.length - k) 0 (⟨Nat.zero_le _, rfl⟩) ⟨rfl, rfl, rfl, rfl, trivial⟩ ?_
  rintro k ⟨hk, hsk⟩
  dsimp only [List.cons_append, List.nil_append]
  refine cj_seq ?_
  refine cj_regionG (gj_step (y_lss rfl rfl) rfl rfl rfl (gj_nil ?_))
  refine ej_th (cj_seq ?_)
  refine cj_cond rfl (fun h9 => ?_) (fun h9 => ?_)
  · have h9b := h9
    try simp only [sxb] at h9
    obtain ⟨x, hx⟩ : ∃ x, l[k]? = some x := ⟨_, List.getElem?_eq_getElem (by omega)⟩
    rw [firstPrc_drop l k x hx] at hsk
    refine cj_skip (ej_th (cj_seq (cj_block (cj_seq ?_))))
    refine cj_regionG (gj_step (y_move rfl) rfl rfl rfl (gj_step (y_assign rfl) rfl rfl rfl (gj_nil ?_)))
    refine ej_th (cj_seq ?_)
    refine cj_regionG ?_
    refine gj_step (y_move rfl) rfl rfl rfl (gj_step (y_move rfl) rfl rfl rfl (gj_step (y_move rfl) rfl rfl rfl (gj_step (y_ixR (reads_sl) Tryz.underlying49 Tryz.sizeOf3 rfl rfl (⟨by omega, by omega⟩)) rfl rfl rfl (gj_step (y_ld0 (reads_sl) Tryz.isAgg3 rfl (hx) rfl) rfl rfl rfl (?_)))))
    refine gj_step (y_callV Tryz.call53 rfl rfl (fun w hp => k_clP x w)) rfl rfl rfl ?_
    refine gj_nil ?_
    refine ej_th ?_
    refine cj_cond rfl (fun h16 => ?_) (fun h16 => ?_)
    · have h16b := h16
      try simp only [sxb] at h16
      refine cj_seq ?_
      refine cj_regionG (gj_step (y_move rfl) rfl rfl rfl (gj_step (y_assign rfl) rfl rfl rfl (gj_nil ?_)))
      refine ej_th (cj_ret (ej_blk_ret (ej_then_ret (ej_then_ret (ej_blk_ret (ej_then_ret ?_))))))
      refine ej_ret1 rfl Tryz.results82 rfl (fun w' hp => ⟨?_, hp.below⟩)
      rw [← hsk, if_pos h16]
    · have h16b := h16
      try simp only [sxb] at h16
      refine cj_skip (ej_blk (ej_th ?_))
      refine cj_regionG (gj_step (y_add rfl rfl (by omega)) rfl rfl rfl (gj_step (y_move rfl) rfl rfl rfl (gj_nil ?_)))
      exact ej_nx (k + 1) (by omega) ⟨by omega, by rw [← hsk, if_neg (by simp [h16])]⟩ ⟨rfl, rfl, rfl, rfl, trivial⟩
  · have h9b := h9
    try simp only [sxb] at h9
    refine cj_exit (ej_then_exit (ej_then_exit (ej_blk_hit (ej_th (cj_seq ?_)))))
    refine cj_regionG (gj_step (y_assign rfl) rfl rfl rfl (gj_nil ?_))
    refine ej_th (cj_ret ?_)
    refine ej_ret1 rfl Tryz.results82 rfl (fun w' hp => ⟨?_, hp.below⟩)
    rw [← hsk, List.drop_of_length_le (by omega)]; rfl

theorem k_ContainsFP (l : List Int) (A : Option Addr) (c : Nat) (w : World) (hl : Rd w 1 enInt A l) : Calls Tryz.prog 52 #[.slice A l.length c, .func (.func 53) #[] #[]] w (fun e w' => e = .returned (.bool (!(l.all prc1))) ∧ Grow w w') := by
  refine enter_pure (args := [.slice A l.length c, .func (.func 53) #[] #[]]) [sl (fun b => b < w.heap.size) 1 enInt A l] Tryz.func52 rfl (by rw [Tryz.ntmps52]; simp) (fun g hg => by simp at hg; subst hg; exact ⟨hl, fun _ h => h⟩) ?_
  refine cj_seq ?_
  refine cj_regionG (gj_step (y_assign rfl) rfl rfl rfl (gj_nil ?_))
  refine ej_th (cj_seq ?_)
  refine cj_regionG ?_
  refine gj_step (y_move rfl) rfl rfl rfl (gj_step (y_move rfl) rfl rfl rfl (?_))
  refine gj_step (y_call Tryz.call82 rfl (fun w hp => k_IndexFP l A c w hp.rd)) rfl rfl rfl ?_
  refine gj_step (y_geq rfl rfl) rfl rfl rfl (gj_step (y_assign rfl) rfl rfl rfl (?_))
  refine gj_nil ?_
  refine ej_th (cj_ret ?_)
  refine ej_ret1 rfl Tryz.results52 rfl (fun w' hp => ⟨?_, hp.below⟩)
  rw [firstPrc_all]

theorem k_IndexI (l : List Int) (A : Option Addr) (c : Nat) (n : Int) (w : World) (hl : Rd w 1 enInt A l) : Calls Tryz.prog 96 #[.slice A l.length c, .int .i64 n] w (fun e w' => e = .returned (.int .i64 (seek l n 0)) ∧ Grow w w') := by
  have hlen := hl.len
  refine enter_pure (args := [.slice A l.length c, .int .i64 n]) [sl (fun b => b < w.heap.size) 1 enInt A l] Tryz.func96 rfl (by rw [Tryz.ntmps96]; simp) (fun g hg => by simp at hg; subst hg; exact ⟨hl, fun _ h => h⟩) ?_
  refine cj_seq ?_
  refine cj_regionG (gj_step (y_assign rfl) rfl rfl rfl (gj_nil ?_))
  refine ej_th (cj_seq (cj_seq ?_))
  refine cj_regionG (gj_step (y_move rfl) rfl rfl rfl (gj_step (y_lenA Tryz.underlying49 rfl) rfl rfl rfl (gj_step (y_move rfl) rfl rfl rfl (gj_nil ?_))))
  refine ej_th (cj_block ?_)
  refine cj_lpic (X := Nat) [(0, _), (1, _), (7, _)] (fun k => k ≤ l.length ∧ seek (l.drop k) n k = seek l n 0) (fun k => [(8, .int .i64 k)]) (fun k => l.length - k) 0 (⟨Nat.zero_le _, rfl⟩) ⟨rfl, rfl, rfl, rfl, trivial⟩ ?_
  rintro k ⟨hk, hsk⟩
  dsimp only [List.cons_append, List.nil_append]
  refine cj_seq ?_
  refine cj_regionG (gj_step (y_lss rfl rfl) rfl rfl rfl (gj_nil ?_))
  refine ej_th (cj_seq ?_)
  refine cj_cond rfl (fun h9 => ?_) (fun h9 => ?_)
  · have h9b := h9
    try simp only [sxb] at h9
    obtain ⟨x, hx⟩ : ∃ x, l[k]? = some x := ⟨_, List.getElem?_eq_getElem (by omega)⟩
    rw [seek_drop l n k x hx] at hsk
    refine cj_skip (ej_th (cj_seq (cj_block (cj_seq ?_))))
    refine cj_regionG (gj_step (y_move rfl) rfl rfl rfl (gj_step (y_assign rfl) rfl rfl rfl (gj_nil ?_)))
    refine ej_th (cj_seq ?_)
    refine cj_regionG (gj_step (y_move rfl) rfl rfl rfl (gj_step (y_move rfl) rfl rfl rfl (gj_step (y_move rfl) rfl rfl rfl (gj_step (y_ixR (reads_sl) Tryz.underlying49 Tryz.sizeOf3 rfl rfl (⟨by omega, by omega⟩)) rfl rfl rfl (gj_step (y_ld0 (reads_sl) Tryz.isAgg3 rfl (hx) rfl) rfl rfl rfl (gj_step (y_eql rfl rfl) rfl rfl rfl (gj_nil ?_)))))))
    refine ej_th ?_
    refine cj_cond rfl (fun h16 => ?_) (fun h16 => ?_)
    · have h16b := h16
      try simp only [sxb] at h16
      refine cj_seq ?_
      refine cj_regionG (gj_step (y_move rfl) rfl rfl rfl (gj_step (y_assign rfl) rfl rfl rfl (gj_nil ?_)))
      refine ej_th (cj_ret (ej_blk_ret (ej_then_ret (ej_then_ret (ej_blk_ret (ej_then_ret ?_))))))
      refine ej_ret1 rfl Tryz.results96 rfl (fun w' hp => ⟨?_, hp.below⟩)
      rw [← hsk, if_pos h16.symm]
    · have h16b := h16
      try simp only [sxb] at h16
      refine cj_skip (ej_blk (ej_th ?_))
      refine cj_regionG (gj_step (y_add rfl rfl (by omega)) rfl rfl rfl (gj_step (y_move rfl) rfl rfl rfl (gj_nil ?_)))
      exact ej_nx (k + 1) (by omega) ⟨by omega, by rw [← hsk, if_neg (fun e => h16 e.symm)]⟩ ⟨rfl, rfl, rfl, rfl, trivial⟩
  · have h9b := h9
    try simp only [sxb] at h9
    refine cj_exit (ej_then_exit (ej_then_exit (ej_blk_hit (ej_th (cj_seq ?_)))))
    refine cj_regionG (gj_step (y_assign rfl) rfl rfl rfl (gj_nil ?_))
    refine ej_th (cj_ret ?_)
    refine ej_ret1 rfl Tryz.results96 rfl (fun w' hp => ⟨?_, hp.below⟩)
    rw [← hsk, List.drop_of_length_le (by omega)]; rfl

theorem k_ContainsI (l : List Int) (A : Option Addr) (c : Nat) (n : Int) (w : World) (hl : Rd w 1 enInt A l) : Calls Tryz.prog 80 #[.slice A l.length c, .int .i64 n] w (fun e w' => e = .returned (.bool (hasI l n)) ∧ Grow w w') := by
  refine enter_pure (args := [.slice A l.length c, .int .i64 n]) [sl (fun b => b < w.heap.size) 1 enInt A l] Tryz.func80 rfl (by rw [Tryz.ntmps80]; simp) (fun g hg => by simp at hg; subst hg; exact ⟨hl, fun _ h => h⟩) ?_
  refine cj_seq ?_
  refine cj_regionG (gj_step (y_assign rfl) rfl rfl rfl (gj_nil ?_))
  refine ej_th (cj_seq ?_)
  refine cj_regionG ?_
  refine gj_step (y_move rfl) rfl rfl rfl (gj_step (y_move rfl) rfl rfl rfl (?_))
  refine gj_step (y_call Tryz.call96 rfl (fun w hp => k_IndexI _ _ _ _ w hp.rd)) rfl rfl rfl ?_
  refine gj_step (y_geq rfl rfl) rfl rfl rfl (gj_step (y_assign rfl) rfl rfl rfl (?_))
  refine gj_nil ?_
  refine ej_th (cj_ret ?_)
  refine ej_ret1 rfl Tryz.results80 rfl (fun w' hp => ⟨?_, hp.below⟩)
  rw [← seekI l n 0]; rfl

theorem k_CheckM (ms : List Meas) (A : Option Addr) (c : Nat) (w : World) (hm : Rd w 2 encMe A ms) : Calls Tryz.prog 43 #[.slice A ms.length c] w (fun e w' => e = .returned (.int .i64 (measE ms)) ∧ Grow w w') := by
  have hlen := hm.len
  refine enter_pure (args := [.slice A ms.length c]) [sl (fun b => b < w.heap.size) 2 encMe A ms] Tryz.func43 rfl (by rw [Tryz.ntmps43]; simp) (fun g hg => by simp at hg; subst hg; exact ⟨hm, fun _ h => h⟩) ?_
  refine cj_seq ?_
  refine cj_regionG (gj_step (y_assign rfl) rfl rfl rfl (gj_nil ?_))
  refine ej_th (cj_seq (cj_seq ?_))
  refine cj_regionG ?_
  refine gj_step (y_move rfl) rfl rfl rfl (gj_step (y_lenA Tryz.underlying48 rfl) rfl rfl rfl (?_))
  refine gj_step (y_call Tryz.call45 rfl (fun w hp => k_within1 _ _ _ w)) rfl rfl rfl ?_
  refine gj_step (y_not rfl) rfl rfl rfl (?_)
  refine gj_nil ?_
  refine ej_th ?_
  refine cj_cond rfl (fun h8 => ?_) (fun h8 => ?_)
  · have h8b := h8
    try simp only [sxb] at h8
    refine cj_seq ?_
    refine cj_regionG (gj_step (y_assign rfl) rfl rfl rfl (gj_nil ?_))
    refine ej_th (cj_ret (ej_then_ret ?_))
    refine ej_ret1 rfl Tryz.results43 rfl (fun w' hp => ⟨?_, hp.below⟩)
    rw [measE, show measOk ms = false by rw [measOk, show btw 1 ms.length 8 = false from not_t h8b]; rfl]; rfl
  · have h8b := h8
    try simp only [sxb] at h8
    refine cj_skip (ej_th (cj_seq (cj_seq ?_)))
    refine cj_regionG (gj_step (y_move rfl) rfl rfl rfl (gj_step (y_lenA Tryz.underlying48 rfl) rfl rfl rfl (gj_step (y_move rfl) rfl rfl rfl (gj_nil ?_))))
    refine ej_th (cj_block ?_)
    refine cj_lpic (X := Nat) [(9, _), (10, _)] (fun k => k ≤ ms.length ∧ (ms.drop k).all meas1 = ms.all meas1) (fun k => [(11, .int .i64 k)]) (fun k => ms.length - k) 0 (⟨Nat.zero_le _, rfl⟩) ⟨rfl, rfl, rfl, trivial⟩ ?_
    rintro k ⟨hk, hsk⟩
    dsimp only [List.cons_append, List.nil_append]
    refine cj_seq ?_
    refine cj_regionG (gj_step (y_lss rfl rfl) rfl rfl rfl (gj_nil ?_))
    refine ej_th (cj_seq ?_)
    refine cj_cond rfl (fun h12 => ?_) (fun h12 => ?_)
    · have h12b := h12
      try simp only [sxb] at h12
      obtain ⟨m, hx⟩ : ∃ m, ms[k]? = some m := ⟨_, List.getElem?_eq_getElem (by omega)⟩
      rw [all_drop meas1 ms k m hx] at hsk
      refine cj_skip (ej_th (cj_seq (cj_block (cj_seq (cj_region ?_)))))
      refine oj_step (y_ixR (reads_sl) Tryz.underlying48 Tryz.sizeOf98 rfl rfl (⟨by omega, by omega⟩)) rfl rfl rfl ?_
      refine oj_step (y_ldW (reads_sl) Tryz.isAgg98 Tryz.sizeOf98 rfl (hx) (fun _ => rfl)) rfl rfl rfl ?_
      refine oj_alloc Tryz.zeroValue98 rfl rfl (fun b4 => ?_)
      refine oj_store rfl rfl rfl rfl Tryz.sizeOf98 rfl ?_
      refine oj_nil ?_
      refine ej_th (cj_seq ?_)
      refine cj_regionG ?_
      refine gj_step (y_fa0 fa98_0 rfl) rfl rfl rfl (gj_step (y_load1 Tryz.isAgg3 rfl rfl) rfl rfl rfl (?_))
      refine gj_step (y_call Tryz.call45 rfl (fun w hp => k_within1 _ _ _ w)) rfl rfl rfl ?_
      refine gj_step (y_not rfl) rfl rfl rfl (gj_step (y_move rfl) rfl rfl rfl (?_))
      refine gj_g 4 19 23 rfl rfl rfl rfl (fun hg19 => gj_yes rfl rfl rfl (y_fa fa98_1 rfl) rfl rfl (gj_yes rfl rfl rfl (y_load1 Tryz.isAgg3 rfl rfl) rfl rfl (gj_yes rfl rfl rfl (y_call Tryz.call45 rfl (fun w hp => k_within1 _ _ _ w)) rfl rfl (gj_yes rfl rfl rfl (y_not rfl) rfl rfl (gj_nil rfl))))) ?_
      refine gj_step (y_or rfl rfl rfl) rfl rfl rfl (?_)
      refine gj_nil ?_
      refine ej_th ?_
      refine cj_cond rfl (fun h24 => ?_) (fun h24 => ?_)
      · have h24b := h24
        try simp only [sxb] at h24
        refine cj_seq ?_
        refine cj_regionG (gj_step (y_assign rfl) rfl rfl rfl (gj_nil ?_))
        refine ej_th (cj_ret (ej_blk_ret (ej_then_ret (ej_then_ret (ej_blk_ret (ej_then_ret ?_))))))
        refine ej_ret1 rfl Tryz.results43 rfl (fun w' hp => ⟨?_, hp.below⟩)
        rw [measE, show measOk ms = false by rw [measOk, ← hsk, not_t ((meas1_V m).symm.trans h24b)]; simp]; rfl
      · have h24b := h24
        try simp only [sxb] at h24
        refine cj_skip (ej_blk (ej_th ?_))
        refine cj_regionG (gj_step (y_add rfl rfl (by omega)) rfl rfl rfl (gj_step (y_move rfl) rfl rfl rfl (gj_nil ?_)))
        exact ej_nx (k + 1) (by omega) ⟨by omega, by rw [← hsk, not_f ((meas1_V m).symm.trans h24b), Bool.true_and]⟩ ⟨rfl, rfl, rfl, trivial⟩
    · have h12b := h12
      try simp only [sxb] at h12
      refine cj_exit (ej_then_exit (ej_then_exit (ej_blk_hit (ej_th (cj_seq ?_)))))
      refine cj_regionG (gj_step (y_assign rfl) rfl rfl rfl (gj_nil ?_))
      refine ej_th (cj_ret ?_)
      refine ej_ret1 rfl Tryz.results43 rfl (fun w' hp => ⟨?_, hp.below⟩)
      rw [measE, show measOk ms = true by rw [measOk, show btw 1 ms.length 8 = true from not_f h8b, ← hsk, List.drop_of_length_le (by omega)]; rfl]; rfl

theorem k_readings (ms : List Meas) (A : Option Addr) (c : Nat) (ls : List ListV) (B : Option Addr) (d : Nat) (w : World) (hl : Rd w 1 encLs B ls) (hgl : ∀ r ∈ ls, GoodL w r) : Calls Tryz.prog 44 #[.slice A ms.length c, .slice B ls.length d] w (fun e w' => e = .returned (.int .i64 (rdsE ms.length ls)) ∧ Grow w w') := by
  have hlen := hl.len
  refine enter_pure (args := [.slice A ms.length c, .slice B ls.length d]) [sl (fun b => b < w.heap.size) 1 encLs B ls] Tryz.func44 rfl (by rw [Tryz.ntmps44]; simp) (fun g hg => by simp at hg; subst hg; exact ⟨hl, fun _ h => h⟩) ?_
  refine cj_seq ?_
  refine cj_regionG (gj_step (y_assign rfl) rfl rfl rfl (gj_nil ?_))
  refine ej_th (cj_seq (cj_seq ?_))
  refine cj_regionG (gj_step (y_move rfl) rfl rfl rfl (gj_step (y_lenA Tryz.underlying57 rfl) rfl rfl rfl (gj_step (y_move rfl) rfl rfl rfl (gj_nil ?_))))
  refine ej_th (cj_block ?_)
  refine cj_lpic (X := Nat) [(0, _), (7, _), (8, _)] (fun k => k ≤ ls.length ∧ (ls.drop k).all (rdOkV ms.length) = ls.all (rdOkV ms.length)) (fun k => [(9, .int .i64 k)]) (fun k => ls.length - k) 0 (⟨Nat.zero_le _, rfl⟩) ⟨rfl, rfl, rfl, rfl, trivial⟩ ?_
  rintro k ⟨hk, hsk⟩
  dsimp only [List.cons_append, List.nil_append]
  refine cj_seq ?_
  refine cj_regionG (gj_step (y_lss rfl rfl) rfl rfl rfl (gj_nil ?_))
  refine ej_th (cj_seq ?_)
  refine cj_cond rfl (fun h10 => ?_) (fun h10 => ?_)
  · have h10b := h10
    try simp only [sxb] at h10
    obtain ⟨r, hx⟩ : ∃ r, ls[k]? = some r := ⟨_, List.getElem?_eq_getElem (by omega)⟩
    rw [all_drop (rdOkV ms.length) ls k r hx] at hsk
    have hgr := hgl r (List.mem_of_getElem? hx)
    have hl2 := hgr.len
    refine cj_rd hgr (fun _ h => h) ?_
    refine cj_skip (ej_th (cj_seq (cj_block (cj_seq ?_))))
    refine cj_regionG (gj_step (y_ixR (reads_sl) Tryz.underlying57 Tryz.sizeOf49 rfl rfl (⟨by omega, by omega⟩)) rfl rfl rfl (gj_step (y_ld0 (reads_sl) Tryz.isAgg49 rfl (hx) rfl) rfl rfl rfl (gj_step (y_assign rfl) rfl rfl rfl (gj_nil ?_))))
    refine ej_th (cj_seq ?_)
    refine cj_regionG ?_
    refine gj_step (y_move rfl) rfl rfl rfl (gj_step (y_lenA Tryz.underlying49 rfl) rfl rfl rfl (gj_step (y_move rfl) rfl rfl rfl (gj_step (y_lenA Tryz.underlying48 rfl) rfl rfl rfl (gj_step (y_neq rfl rfl) rfl rfl rfl (gj_step (y_move rfl) rfl rfl rfl (?_))))))
    refine gj_g 2 18 20 rfl rfl rfl rfl (fun hg18 => gj_yes rfl rfl rfl (y_move rfl) rfl rfl (gj_yes rfl rfl rfl (y_call Tryz.call52 rfl (fun w hp => k_ContainsFR r.l _ _ w hp.rd)) rfl rfl (gj_nil rfl))) ?_
    refine gj_step (y_or rfl rfl rfl) rfl rfl rfl (?_)
    refine gj_nil ?_
    refine ej_th ?_
    refine cj_cond rfl (fun h21 => ?_) (fun h21 => ?_)
    · have h21b := h21
      try simp only [sxb] at h21
      refine cj_seq ?_
      refine cj_regionG (gj_step (y_assign rfl) rfl rfl rfl (gj_nil ?_))
      refine ej_th (cj_ret (ej_blk_ret (ej_then_ret (ej_then_ret (ej_blk_ret (ej_then_ret ?_))))))
      refine ej_ret1 rfl Tryz.results44 rfl (fun w' hp => ⟨?_, hp.below⟩)
      rw [rdsE, ← hsk, show rdOkV ms.length r = false from not_t ((rd_V _ _ _).symm.trans h21b)]; rfl
    · have h21b := h21
      try simp only [sxb] at h21
      refine cj_skip (ej_blk (ej_th ?_))
      refine cj_regionG (gj_step (y_add rfl rfl (by omega)) rfl rfl rfl (gj_step (y_move rfl) rfl rfl rfl (gj_nil ?_)))
      exact ej_nx (k + 1) (by omega) ⟨by omega, by rw [← hsk, show rdOkV ms.length r = true from not_f ((rd_V _ _ _).symm.trans h21b), Bool.true_and]⟩ ⟨rfl, rfl, rfl, rfl, trivial⟩
  · have h10b := h10
    try simp only [sxb] at h10
    refine cj_exit (ej_then_exit (ej_then_exit (ej_blk_hit (ej_th (cj_seq ?_)))))
    refine cj_regionG (gj_step (y_assign rfl) rfl rfl rfl (gj_nil ?_))
    refine ej_th (cj_ret ?_)
    refine ej_ret1 rfl Tryz.results44 rfl (fun w' hp => ⟨?_, hp.below⟩)
    rw [rdsE, ← hsk, List.drop_of_length_le (by omega)]; rfl

theorem k_skill (ms : List Meas) (A : Option Addr) (c : Nat) (tk : List Int) (At : Option Addr) (ct : Nat) (fs : List FakeV) (Af : Option Addr) (cf : Nat) (w : World) (hm : Rd w 2 encMe A ms) (ht : Rd w 1 enInt At tk) (hf : Rd w 1 encFk Af fs) (hgf : ∀ f ∈ fs, GoodK w f) : Calls Tryz.prog 46 #[.slice A ms.length c, .slice At tk.length ct, .slice Af fs.length cf] w (fun e w' => e = .returned (.int .i64 (skillE ms tk fs)) ∧ Grow w w') := by
  have hlm := hm.len
  have hlf := hf.len
  refine enter_pure (args := [.slice A ms.length c, .slice At tk.length ct, .slice Af fs.length cf]) [sl (fun b => b < w.heap.size) 2 encMe A ms, sl (fun b => b < w.heap.size) 1 enInt At tk, sl (fun b => b < w.heap.size) 1 encFk Af fs] Tryz.func46 rfl (by rw [Tryz.ntmps46]; simp) (fun g hg => by simp at hg; rcases hg with rfl | rfl | rfl; exact ⟨hm, fun _ h => h⟩; exact ⟨ht, fun _ h => h⟩; exact ⟨hf, fun _ h => h⟩) ?_
  refine cj_seq ?_
  refine cj_regionG (gj_step (y_assign rfl) rfl rfl rfl (gj_nil ?_))
  refine ej_th (cj_seq (cj_seq ?_))
  refine cj_regionG ?_
  refine gj_step (y_move rfl) rfl rfl rfl (?_)
  refine gj_step (y_call Tryz.call43 rfl (fun w hp => k_CheckM _ _ _ w hp.rd)) rfl rfl rfl ?_
  refine gj_step (y_assign rfl) rfl rfl rfl (?_)
  refine gj_nil ?_
  refine ej_th (cj_seq ?_)
  refine cj_regionG (gj_step (y_move rfl) rfl rfl rfl (gj_step (y_neq rfl rfl) rfl rfl rfl (gj_nil ?_)))
  refine ej_th ?_
  refine cj_cond rfl (fun h16 => ?_) (fun h16 => ?_)
  · have h16b := h16
    try simp only [sxb] at h16
    have hno := meas_no h16b
    refine cj_seq ?_
    refine cj_regionG (gj_step (y_move rfl) rfl rfl rfl (gj_step (y_assign rfl) rfl rfl rfl (gj_nil ?_)))
    refine ej_th (cj_ret (ej_then_ret ?_))
    refine ej_ret1 rfl Tryz.results46 rfl (fun w' hp => ⟨?_, hp.below⟩)
    rw [skillE, measE, hno]; rfl
  · have h16b := h16
    try simp only [sxb] at h16
    have hmo := meas_0 h16b
    obtain ⟨hml, hmb⟩ := meas_bd hmo
    refine cj_skip (ej_th (cj_seq (cj_seq (cj_region ?_))))
    refine oj_step (y_move rfl) rfl rfl rfl ?_
    refine oj_step (y_move rfl) rfl rfl rfl ?_
    refine oj_buildSlice (cs := [.slice At tk.length ct]) [.slice none 0 0] Tryz.underlying57 Tryz.sizeOf49 Tryz.zeroValue49 rfl rfl (by kernel_rfl) (by kernel_rfl) rfl (fun b20 => ?_)
    refine oj_step (y_call Tryz.call44 rfl (fun w hp => k_readings ms A c [⟨At, ct, tk⟩] (some ⟨b20, 0, none⟩) 1 w (hp.rdLit (sz := 1) (enc := encLs) [⟨At, ct, tk⟩] (fun _ => rfl) rfl (by unfold maxLen; simp)) (fun r hr => by rw [List.mem_singleton.1 hr]; exact ht.mono hp.below))) rfl rfl rfl ?_
    refine oj_step (y_assign rfl) rfl rfl rfl ?_
    refine oj_nil ?_
    refine ej_th (cj_seq ?_)
    refine cj_regionG (gj_step (y_move rfl) rfl rfl rfl (gj_step (y_neq rfl rfl) rfl rfl rfl (gj_nil ?_)))
    refine ej_th ?_
    refine cj_cond rfl (fun h23 => ?_) (fun h23 => ?_)
    · have h23b := h23
      try simp only [sxb] at h23
      have hno : rdOk ms.length tk = false := by have := rds_no h23b; simpa [rdOkV] using this
      refine cj_seq ?_
      refine cj_regionG (gj_step (y_move rfl) rfl rfl rfl (gj_step (y_assign rfl) rfl rfl rfl (gj_nil ?_)))
      refine ej_th (cj_ret (ej_then_ret ?_))
      refine ej_ret1 rfl Tryz.results46 rfl (fun w' hp => ⟨?_, hp.below⟩)
      rw [skillE, hmo, if_pos rfl, hno, rdsE, show [(⟨At, ct, tk⟩ : ListV)].all (rdOkV ms.length) = false by simpa [rdOkV] using hno]; rfl
    · have h23b := h23
      try simp only [sxb] at h23
      have hto : rdOk ms.length tk = true := by have := rds_0 h23b; simpa [rdOkV] using this
      refine cj_skip (ej_th (cj_seq (cj_seq ?_)))
      refine cj_regionG (gj_step (y_move rfl) rfl rfl rfl (gj_step (y_lenA Tryz.underlying50 rfl) rfl rfl rfl (gj_step (y_gtr rfl rfl) rfl rfl rfl (gj_nil ?_))))
      refine ej_th ?_
      refine cj_cond rfl (fun h27 => ?_) (fun h27 => ?_)
      · have h27b := h27
        try simp only [sxb] at h27
        refine cj_seq ?_
        refine cj_regionG (gj_step (y_assign rfl) rfl rfl rfl (gj_nil ?_))
        refine ej_th (cj_ret (ej_then_ret ?_))
        refine ej_ret1 rfl Tryz.results46 rfl (fun w' hp => ⟨?_, hp.below⟩)
        rw [skillE, hmo, hto, if_pos rfl, if_pos rfl, show fakesOk ms.length fs = false by rw [fakesOk, decide_eq_false (by omega)]; rfl]; rfl
      · have h27b := h27
        try simp only [sxb] at h27
        refine cj_skip (ej_th (cj_seq (cj_seq ?_)))
        refine cj_regionG (gj_step (y_move rfl) rfl rfl rfl (gj_step (y_lenA Tryz.underlying50 rfl) rfl rfl rfl (gj_step (y_move rfl) rfl rfl rfl (gj_nil ?_))))
        refine ej_th (cj_block ?_)
        refine cj_lpic (X := Nat) [(0, _), (28, _), (29, _)] (fun k => k ≤ fs.length ∧ (fs.drop k).all (fake1 ms.length) = fs.all (fake1 ms.length)) (fun k => [(30, .int .i64 k)]) (fun k => fs.length - k) 0 (⟨Nat.zero_le _, rfl⟩) ⟨rfl, rfl, rfl, rfl, trivial⟩ ?_
        rintro k ⟨hk, hsk⟩
        dsimp only [List.cons_append, List.nil_append]
        refine cj_seq ?_
        refine cj_regionG (gj_step (y_lss rfl rfl) rfl rfl rfl (gj_nil ?_))
        refine ej_th (cj_seq ?_)
        refine cj_cond rfl (fun h31 => ?_) (fun h31 => ?_)
        · have h31b := h31
          try simp only [sxb] at h31
          obtain ⟨f, hx⟩ : ∃ f, fs[k]? = some f := ⟨_, List.getElem?_eq_getElem (by omega)⟩
          rw [all_drop (fake1 ms.length) fs k f hx] at hsk
          have hgr := hgf f (List.mem_of_getElem? hx)
          have hl2 := hgr.len
          refine cj_rd hgr (fun _ h => h) ?_
          refine cj_skip (ej_th (cj_seq (cj_block (cj_seq (cj_region ?_)))))
          refine oj_step (y_ixR (reads_sl) Tryz.underlying50 Tryz.sizeOf63 rfl rfl (⟨by omega, by omega⟩)) rfl rfl rfl ?_
          refine oj_step (y_ldW (reads_sl) Tryz.isAgg63 Tryz.sizeOf63 rfl (hx) (fun _ => rfl)) rfl rfl rfl ?_
          refine oj_alloc Tryz.zeroValue63 rfl rfl (fun b10 => ?_)
          refine oj_store rfl rfl rfl rfl Tryz.sizeOf63 rfl ?_
          refine oj_nil ?_
          refine ej_th (cj_seq (cj_seq ?_))
          refine cj_regionG (gj_step (y_fa0 fa63_0 rfl) rfl rfl rfl (gj_step (y_load1 Tryz.isAgg54 rfl rfl) rfl rfl rfl (gj_step (y_lenA Tryz.underlying54 rfl) rfl rfl rfl (gj_step (y_move rfl) rfl rfl rfl (gj_step (y_lenA Tryz.underlying48 rfl) rfl rfl rfl (gj_step (y_neq rfl rfl) rfl rfl rfl (gj_nil ?_)))))))
          refine ej_th ?_
          refine cj_cond rfl (fun h39 => ?_) (fun h39 => ?_)
          · have h39b := h39
            try simp only [sxb] at h39
            have hbad : fake1 ms.length f = false := by unfold fake1; rw [show ((f.has.length : Int) == (ms.length : Int)) = false by simpa [bne] using h39b]; rfl
            refine cj_seq ?_
            refine cj_regionG (gj_step (y_assign rfl) rfl rfl rfl (gj_nil ?_))
            refine ej_th (cj_ret (ej_then_ret (ej_blk_ret (ej_then_ret (ej_then_ret (ej_blk_ret (ej_then_ret ?_)))))))
            refine ej_ret1 rfl Tryz.results46 rfl (fun w' hp => ⟨?_, hp.below⟩)
            rw [skillE, hmo, hto, if_pos rfl, if_pos rfl, show fakesOk ms.length fs = false by rw [fakesOk, ← hsk, hbad]; simp]; rfl
          · have h39b := h39
            try simp only [sxb] at h39
            have hfl : ((f.has.length : Int) == (ms.length : Int)) = true := by simpa [bne] using h39b
            refine cj_skip (ej_th (cj_seq ?_))
            refine cj_regionG (gj_step (y_fa0 fa63_0 rfl) rfl rfl rfl (gj_step (y_load1 Tryz.isAgg54 rfl rfl) rfl rfl rfl (gj_step (y_lenA Tryz.underlying54 rfl) rfl rfl rfl (gj_step (y_move rfl) rfl rfl rfl (gj_nil ?_)))))
            refine ej_th (cj_block ?_)
            refine cj_lpic (X := Nat) [(30, _), (0, _), (28, _), (29, _), (41, _), (42, _)] (fun j => j ≤ f.has.length ∧ (f.has.drop j).all goodSp = f.has.all goodSp) (fun j => [(43, .int .i64 j)]) (fun j => f.has.length - j) 0 (⟨Nat.zero_le _, rfl⟩) ⟨rfl, rfl, rfl, rfl, rfl, rfl, rfl, trivial⟩ ?_
            rintro j ⟨hj, hsj⟩
            dsimp only [List.cons_append, List.nil_append]
            refine cj_seq ?_
            refine cj_regionG (gj_step (y_lss rfl rfl) rfl rfl rfl (gj_nil ?_))
            refine ej_th (cj_seq ?_)
            refine cj_cond rfl (fun h44 => ?_) (fun h44 => ?_)
            · have h44b := h44
              try simp only [sxb] at h44
              obtain ⟨s, hy⟩ : ∃ s, f.has[j]? = some s := ⟨_, List.getElem?_eq_getElem (by omega)⟩
              rw [all_drop goodSp f.has j s hy] at hsj
              refine cj_skip (ej_th (cj_seq (cj_block (cj_seq (cj_region ?_)))))
              refine oj_step (y_ixR (reads_sl) Tryz.underlying54 Tryz.sizeOf70 rfl rfl (⟨by omega, by omega⟩)) rfl rfl rfl ?_
              refine oj_step (y_ldW (reads_sl) Tryz.isAgg70 Tryz.sizeOf70 rfl (hy) (fun _ => rfl)) rfl rfl rfl ?_
              refine oj_alloc Tryz.zeroValue70 rfl rfl (fun b12 => ?_)
              refine oj_store rfl rfl rfl rfl Tryz.sizeOf70 rfl ?_
              refine oj_nil ?_
              refine ej_th (cj_seq ?_)
              refine cj_regionG (gj_step (y_fa0 fa70_0 rfl) rfl rfl rfl (gj_step (y_load1 Tryz.isAgg3 rfl rfl) rfl rfl rfl (gj_step (y_lss rfl rfl) rfl rfl rfl (gj_step (y_move rfl) rfl rfl rfl (gj_g 5 50 55 rfl rfl rfl rfl (fun hg50 => gj_yes rfl rfl rfl (y_fa0 fa70_0 rfl) rfl rfl (gj_yes rfl rfl rfl (y_load1 Tryz.isAgg3 rfl rfl) rfl rfl (gj_yes rfl rfl rfl (y_fa fa70_1 rfl) rfl rfl (gj_yes rfl rfl rfl (y_load1 Tryz.isAgg3 rfl rfl) rfl rfl (gj_yes rfl rfl rfl (y_gtr rfl rfl) rfl rfl (gj_nil rfl)))))) (gj_step (y_or rfl rfl rfl) rfl rfl rfl (gj_step (y_move rfl) rfl rfl rfl (gj_g 3 57 60 rfl rfl rfl rfl (fun hg57 => gj_yes rfl rfl rfl (y_fa fa70_1 rfl) rfl rfl (gj_yes rfl rfl rfl (y_load1 Tryz.isAgg3 rfl rfl) rfl rfl (gj_yes rfl rfl rfl (y_gtr rfl rfl) rfl rfl (gj_nil rfl)))) (gj_step (y_or rfl rfl rfl) rfl rfl rfl (gj_nil ?_))))))))))
              refine ej_th ?_
              refine cj_cond rfl (fun h61 => ?_) (fun h61 => ?_)
              · have h61b := h61
                try simp only [sxb] at h61
                refine cj_seq ?_
                refine cj_regionG (gj_step (y_assign rfl) rfl rfl rfl (gj_nil ?_))
                refine ej_th (cj_ret (ej_blk_ret (ej_then_ret (ej_then_ret (ej_blk_ret (ej_blk_ret (ej_then_ret (ej_then_ret (ej_blk_ret (ej_then_ret ?_))))))))))
                refine ej_ret1 rfl Tryz.results46 rfl (fun w' hp => ⟨?_, hp.below⟩)
                rw [skillE, hmo, hto, if_pos rfl, if_pos rfl, show fakesOk ms.length fs = false by rw [fakesOk, ← hsk, fake1, ← hsj, show goodSp s = false by unfold goodSp badSp; rw [h61b]; rfl]; simp]; rfl
              · have h61b := h61
                try simp only [sxb] at h61
                refine cj_skip (ej_blk (ej_th ?_))
                refine cj_regionG (gj_step (y_add rfl rfl (by omega)) rfl rfl rfl (gj_step (y_move rfl) rfl rfl rfl (gj_nil ?_)))
                exact ej_nx (j + 1) (by omega) ⟨by omega, by rw [← hsj, show goodSp s = true by unfold goodSp badSp; rw [h61b]; rfl, Bool.true_and]⟩ ⟨rfl, rfl, rfl, rfl, rfl, rfl, rfl, trivial⟩
            · have h44b := h44
              try simp only [sxb] at h44
              have hfo : fake1 ms.length f = true := by unfold fake1; rw [hfl, ← hsj, List.drop_of_length_le (by omega)]; rfl
              refine cj_exit (ej_then_exit (ej_then_exit (ej_blk_hit (ej_blk (ej_th ?_)))))
              refine cj_regionG (gj_step (y_add rfl rfl (by omega)) rfl rfl rfl (gj_step (y_move rfl) rfl rfl rfl (gj_nil ?_)))
              exact ej_nx (k + 1) (by omega) ⟨by omega, by rw [← hsk, hfo, Bool.true_and]⟩ ⟨rfl, rfl, rfl, rfl, trivial⟩
        · have h31b := h31
          try simp only [sxb] at h31
          refine cj_exit (ej_then_exit (ej_then_exit (ej_blk_hit (ej_th (cj_seq ?_)))))
          refine cj_regionG (gj_step (y_assign rfl) rfl rfl rfl (gj_nil ?_))
          refine ej_th (cj_ret ?_)
          refine ej_ret1 rfl Tryz.results46 rfl (fun w' hp => ⟨?_, hp.below⟩)
          rw [skillE, hmo, hto, if_pos rfl, if_pos rfl, show fakesOk ms.length fs = true by rw [fakesOk, decide_eq_true (by omega), ← hsk, List.drop_of_length_le (by omega)]; rfl]; rfl

theorem k_finds (m : Meas) (r : Int) (s : Span) (w : World) (hb : (-1 ≤ r ∧ r ≤ 100000) ∧ (0 ≤ m.tol ∧ m.tol ≤ 1000)) : Calls Tryz.prog 54 #[evMe m, .int .i64 r, evSp s] w (fun e w' => e = .returned (.bool (fnd m r s)) ∧ Grow w w') := by
  refine enter_pure (args := [evMe m, .int .i64 r, evSp s]) [] Tryz.func54 rfl (by rw [Tryz.ntmps54]; simp) (by simp) ?_
  refine cj_seq (cj_region ?_)
  refine oj_box rfl rfl rfl (fun b3 => ?_)
  refine oj_box rfl rfl rfl (fun b5 => ?_)
  refine oj_step (y_assign rfl) rfl rfl rfl ?_
  refine oj_nil ?_
  refine ej_th (cj_seq ?_)
  refine cj_regionG (gj_step (y_move rfl) rfl rfl rfl (gj_step (y_geq rfl rfl) rfl rfl rfl (gj_step (y_move rfl) rfl rfl rfl (gj_g 18 9 27 rfl rfl rfl rfl (fun hg9 => gj_yes rfl rfl rfl (y_fa0 fa70_0 rfl) rfl rfl (gj_yes rfl rfl rfl (y_load1 Tryz.isAgg3 rfl rfl) rfl rfl (gj_yes rfl rfl rfl (y_move rfl) rfl rfl (gj_yes rfl rfl rfl (y_fa0 fa98_0 rfl) rfl rfl (gj_yes rfl rfl rfl (y_load1 Tryz.isAgg3 rfl rfl) rfl rfl (gj_yes rfl rfl rfl (y_mul rfl rfl (by omega)) rfl rfl (gj_yes rfl rfl rfl (y_add rfl rfl (by omega)) rfl rfl (gj_yes rfl rfl rfl (y_gtr rfl rfl) rfl rfl (gj_yes rfl rfl rfl (y_move rfl) rfl rfl (gj_g 8 18 26 rfl rfl rfl rfl (fun hg18 => gj_yes rfl rfl rfl (y_fa fa70_1 rfl) rfl rfl (gj_yes rfl rfl rfl (y_load1 Tryz.isAgg3 rfl rfl) rfl rfl (gj_yes rfl rfl rfl (y_move rfl) rfl rfl (gj_yes rfl rfl rfl (y_fa0 fa98_0 rfl) rfl rfl (gj_yes rfl rfl rfl (y_load1 Tryz.isAgg3 rfl rfl) rfl rfl (gj_yes rfl rfl rfl (y_mul rfl rfl (by omega)) rfl rfl (gj_yes rfl rfl rfl (y_sub rfl rfl (by omega)) rfl rfl (gj_yes rfl rfl rfl (y_lss rfl rfl) rfl rfl (gj_nil rfl))))))))) (gj_yes rfl rfl rfl (y_or rfl rfl rfl) rfl rfl (gj_nil rfl)))))))))))) (gj_step (y_and rfl rfl rfl) rfl rfl rfl (gj_step (y_assign rfl) rfl rfl rfl (gj_nil ?_)))))))
  refine ej_th (cj_ret ?_)
  exact ej_ret1 rfl Tryz.results54 rfl (fun w' hp => ⟨rfl, hp.below⟩)

end Go.Proofs.YtlfbghkcfmcnlaaGreatDoor
namespace Go.Proofs.YtlfbghkcfmcnlaaGreatDoor
open Go.Sx Go.RowKit
set_option maxRecDepth 20000
theorem el49 : ElemIs Tryz.prog 49 3 1 8 := ⟨⟨_, (.int .i64 0), Tryz.underlying49, Tryz.type3, by kernel_rfl, by kernel_rfl, by kernel_rfl, by kernel_rfl, by decide⟩⟩
end Go.Proofs.YtlfbghkcfmcnlaaGreatDoor
namespace Go.Proofs.YtlfbghkcfmcnlaaGreatDoor
open Go.Sx Go.RowKit
set_option maxRecDepth 20000
theorem k_found (ms : List Meas) (A : Option Addr) (c : Nat) (tk : List Int) (At : Option Addr) (ct : Nat) (f : FakeV) (w : World) (hm : Rd w 2 encMe A ms) (ht : Rd w 1 enInt At tk) (hr : Rd w 2 encSp f.A f.has) (hml : ms.length ≤ 8) (hmb : ∀ m ∈ ms, (0 ≤ m.tol ∧ m.tol ≤ 1000) ∧ (1 ≤ m.lab ∧ m.lab ≤ 1000)) (htl : tk.length = ms.length ∧ ∀ x ∈ tk, -1 ≤ x ∧ x ≤ 100000) (hhl : f.has.length = ms.length) : Calls Tryz.prog 47 #[.slice A ms.length c, .slice At tk.length ct, evFk f] w (fun e w' => ∃ A c, e = .returned (.slice A (foundL ms tk f).length c) ∧ Grow w w' ∧ Res w w' 1 enInt A (foundL ms tk f)) := by
  refine enter_pure (args := [.slice A ms.length c, .slice At tk.length ct, evFk f]) [sl (fun b => b < w.heap.size) 2 encMe A ms, sl (fun b => b < w.heap.size) 1 enInt At tk, sl (fun b => b < w.heap.size) 2 encSp f.A f.has] Tryz.func47 rfl (by rw [Tryz.ntmps47]; simp) (fun g hg => by simp at hg; rcases hg with rfl | rfl | rfl; exact ⟨hm, fun _ h => h⟩; exact ⟨ht, fun _ h => h⟩; exact ⟨hr, fun _ h => h⟩) ?_
  refine cj_seq (cj_region ?_)
  refine oj_box rfl rfl rfl (fun b5 => ?_)
  refine oj_step (y_assign rfl) rfl rfl rfl ?_
  refine oj_nil ?_
  refine ej_th (cj_seq ?_)
  refine cj_regionG (gj_step (y_assign rfl) rfl rfl rfl (gj_nil ?_))
  refine ej_th (cj_seq (cj_seq ?_))
  refine cj_regionG (gj_step (y_move rfl) rfl rfl rfl (gj_step (y_lenA Tryz.underlying48 rfl) rfl rfl rfl (gj_step (y_move rfl) rfl rfl rfl (gj_nil ?_))))
  refine ej_th (cj_block ?_)
  refine cj_ownNil 3 1 enInt ?_
  refine cj_eqO [ow 3 1 enInt none 0 ([] : List Int), ownB b5 (cellsB 63 [.slice f.A f.has.length f.c])] rfl ?_
  refine cj_lpi (X := Nat × Option Addr × Nat × List Int) [(1, _), (5, _), (6, _), (10, _), (11, _)] (fun ⟨k, A1, c1, xs⟩ => k ≤ ms.length ∧ xs.length ≤ k ∧ xs ++ fndF (ms.drop k) (tk.drop k) (f.has.drop k) k = (foundL ms tk f)) (fun ⟨k, A1, c1, xs⟩ => [(7, .slice A1 xs.length c1), (12, .int .i64 k)]) (fun ⟨k, A1, c1, xs⟩ => [ow 3 1 enInt A1 c1 xs, ownB b5 (cellsB 63 [.slice f.A f.has.length f.c])]) (fun ⟨k, A1, c1, xs⟩ => [sl (fun b => b < w.heap.size) 2 encMe A ms, sl (fun b => b < w.heap.size) 1 enInt At tk, sl (fun b => b < w.heap.size) 2 encSp f.A f.has]) (fun ⟨k, A1, c1, xs⟩ => ms.length - k) (0, none, 0, []) (⟨Nat.zero_le _, Nat.zero_le _, rfl⟩) ⟨rfl, rfl, rfl, rfl, rfl, rfl, rfl, trivial⟩ ?_
  rintro ⟨k, A1, c1, xs⟩ ⟨hk, hxl, hxs⟩
  dsimp only [List.cons_append, List.nil_append]
  refine cj_seq ?_
  refine cj_regionG (gj_step (y_lss rfl rfl) rfl rfl rfl (gj_nil ?_))
  refine ej_th (cj_seq ?_)
  refine cj_cond rfl (fun h13 => ?_) (fun h13 => ?_)
  · have h13b := h13
    try simp only [sxb] at h13
    obtain ⟨m, hx⟩ : ∃ m, ms[k]? = some m := ⟨_, List.getElem?_eq_getElem (by omega)⟩
    obtain ⟨r, hy⟩ : ∃ r, tk[k]? = some r := ⟨_, List.getElem?_eq_getElem (by omega)⟩
    obtain ⟨s, hz⟩ : ∃ s, f.has[k]? = some s := ⟨_, List.getElem?_eq_getElem (by omega)⟩
    rw [fndF_drop ms tk f.has k m r s hx hy hz] at hxs
    refine cj_skip (ej_th (cj_seq (cj_block (cj_seq (cj_region ?_)))))
    refine oj_step (y_move rfl) rfl rfl rfl ?_
    refine oj_step (y_ixR (reads_sl) Tryz.underlying48 Tryz.sizeOf98 rfl rfl (⟨by omega, by omega⟩)) rfl rfl rfl ?_
    refine oj_step (y_ldW (reads_sl) Tryz.isAgg98 Tryz.sizeOf98 rfl (hx) (fun _ => rfl)) rfl rfl rfl ?_
    refine oj_alloc Tryz.zeroValue98 rfl rfl (fun b9 => ?_)
    refine oj_step (y_assign rfl) rfl rfl rfl ?_
    refine oj_store rfl rfl rfl rfl Tryz.sizeOf98 rfl ?_
    refine oj_nil ?_
    refine ej_th (cj_seq ?_)
    refine cj_draw (by kernel_rfl) (by kernel_rfl) ?_
    refine gj_step (y_loadN Tryz.isAgg98 Tryz.sizeOf98 rfl) rfl rfl rfl (gj_step (y_move rfl) rfl rfl rfl (gj_step (y_move rfl) rfl rfl rfl (gj_step (y_ixR (reads_sl) Tryz.underlying49 Tryz.sizeOf3 rfl rfl (⟨by omega, by omega⟩)) rfl rfl rfl (gj_step (y_ld0 (reads_sl) Tryz.isAgg3 rfl (hy) rfl) rfl rfl rfl (gj_step (y_fa0 fa63_0 rfl) rfl rfl rfl (gj_step (y_load1 Tryz.isAgg54 rfl rfl) rfl rfl rfl (gj_step (y_move rfl) rfl rfl rfl (gj_step (y_ixR (reads_sl) Tryz.underlying54 Tryz.sizeOf70 rfl rfl (⟨by omega, by omega⟩)) rfl rfl rfl (gj_step (y_ldW (reads_sl) Tryz.isAgg70 Tryz.sizeOf70 rfl (hz) (fun _ => rfl)) rfl rfl rfl (?_))))))))))
    refine gj_step (y_call Tryz.call54 rfl (fun w hp => k_finds m r s w ⟨htl.2 r (List.mem_of_getElem? hy), (hmb m (List.mem_of_getElem? hx)).1⟩)) rfl rfl rfl ?_
    refine gj_nil ?_
    refine ej_th ?_
    refine cj_cond rfl (fun h27 => ?_) (fun h27 => ?_)
    · have h27b := h27
      try simp only [sxb] at h27
      rw [if_pos h27b] at hxs
      refine cj_region ?_
      refine oj_step (y_move rfl) rfl rfl rfl ?_
      refine oj_step (y_move rfl) rfl rfl rfl ?_
      refine oj_buildSlice [.int .i64 0] Tryz.underlying49 Tryz.sizeOf3 Tryz.zeroValue3 rfl rfl (by kernel_rfl) rfl rfl (fun b30 => ?_)
      refine oj_append  el49 (fun _ => rfl) enInt_one rfl rfl rfl (reads_lit [(k : Int)] (fun _ => rfl) rfl) (by simp [maxLen]; omega) (by simp; omega) rfl (fun A31 c31 => ?_)
      refine oj_step (y_assign rfl) rfl rfl rfl ?_
      refine oj_nil ?_
      refine ej_blk (ej_th ?_)
      refine cj_regionG (gj_step (y_add rfl rfl (by omega)) rfl rfl rfl (gj_step (y_move rfl) rfl rfl rfl (gj_nil ?_)))
      exact ej_nx (k + 1, A31, c31, xs ++ [(k : Int)]) (by simp only; omega) ⟨by first | omega | (simp only; omega), by simp only [List.length_append, List.length_cons, List.length_nil]; omega, by rw [List.append_assoc]; exact hxs⟩ ⟨rfl, rfl, rfl, rfl, rfl, rfl, rfl, trivial⟩
    · have h27b := h27
      try simp only [sxb] at h27
      rw [if_neg (by simp [h27b])] at hxs
      refine cj_skip (ej_blk (ej_th ?_))
      refine cj_regionG (gj_step (y_add rfl rfl (by omega)) rfl rfl rfl (gj_step (y_move rfl) rfl rfl rfl (gj_nil ?_)))
      exact ej_nx (k + 1, A1, c1, xs) (by simp only; omega) ⟨by first | omega | (simp only; omega), by simp only; omega, hxs⟩ ⟨rfl, rfl, rfl, rfl, rfl, rfl, rfl, trivial⟩
  · have h13b := h13
    try simp only [sxb] at h13
    have hxe : xs = (foundL ms tk f) := by rw [← hxs, List.drop_of_length_le (show ms.length ≤ k by omega), fndF_nil, List.append_nil]
    refine cj_exit (ej_then_exit (ej_then_exit (ej_blk_hit (ej_th (cj_seq ?_)))))
    refine cj_regionG (gj_step (y_move rfl) rfl rfl rfl (gj_step (y_assign rfl) rfl rfl rfl (gj_nil ?_)))
    refine ej_th (cj_ret ?_)
    exact ej_ret1 rfl Tryz.results47 rfl (fun w' hp => ⟨A1, c1, by rw [← hxe], hp.below, by rw [← hxe]; exact hp.res (fun _ => rfl) (by unfold maxLen; omega)⟩)

theorem k_Finds (ms : List Meas) (A : Option Addr) (c : Nat) (tk : List Int) (At : Option Addr) (ct : Nat) (f : FakeV) (w : World) (hm : Rd w 2 encMe A ms) (ht : Rd w 1 enInt At tk) (hr : Rd w 2 encSp f.A f.has) : Calls Tryz.prog 22 #[.slice A ms.length c, .slice At tk.length ct, evFk f] w (fun e w' => ∃ A c, e = .returned (.tuple #[.slice A (FndL ms tk f).length c, .int .i64 (FndE ms tk f)]) ∧ Grow w w' ∧ Res w w' 1 enInt A (FndL ms tk f)) := by
  refine enter_pure (args := [.slice A ms.length c, .slice At tk.length ct, evFk f]) [sl (fun b => b < w.heap.size) 2 encMe A ms, sl (fun b => b < w.heap.size) 1 enInt At tk, sl (fun b => b < w.heap.size) 2 encSp f.A f.has] Tryz.func22 rfl (by rw [Tryz.ntmps22]; simp) (fun g hg => by simp at hg; rcases hg with rfl | rfl | rfl; exact ⟨hm, fun _ h => h⟩; exact ⟨ht, fun _ h => h⟩; exact ⟨hr, fun _ h => h⟩) ?_
  refine cj_seq (cj_region ?_)
  refine oj_box rfl rfl rfl (fun b5 => ?_)
  refine oj_step (y_assign rfl) rfl rfl rfl ?_
  refine oj_step (y_assign rfl) rfl rfl rfl ?_
  refine oj_nil ?_
  refine ej_th (cj_seq (cj_seq (cj_region ?_)))
  refine oj_step (y_move rfl) rfl rfl rfl ?_
  refine oj_step (y_move rfl) rfl rfl rfl ?_
  refine oj_step (y_loadN Tryz.isAgg63 Tryz.sizeOf63 rfl) rfl rfl rfl ?_
  refine oj_buildSlice (cs := [.slice f.A f.has.length f.c]) [.slice none 0 0] Tryz.underlying50 Tryz.sizeOf63 Tryz.zeroValue63 rfl rfl (by kernel_rfl) (by kernel_rfl) rfl (fun b12 => ?_)
  refine oj_step (y_call Tryz.call46 rfl (fun w hp => k_skill ms A c tk At ct [f] (some ⟨b12, 0, none⟩) 1 w hp.rd hp.rd (hp.rdLit (sz := 1) (enc := encFk) [f] (fun _ => rfl) rfl (by unfold maxLen; simp)) (fun g hg => by rw [List.mem_singleton.1 hg]; exact hr.mono hp.below))) rfl rfl rfl ?_
  refine oj_step (y_assign rfl) rfl rfl rfl ?_
  refine oj_nil ?_
  refine ej_th (cj_seq ?_)
  refine cj_regionG (gj_step (y_move rfl) rfl rfl rfl (gj_step (y_neq rfl rfl) rfl rfl rfl (gj_nil ?_)))
  refine ej_th ?_
  refine cj_cond rfl (fun h15 => ?_) (fun h15 => ?_)
  · have h15b := h15
    try simp only [sxb] at h15
    have hno := skill_no h15b
    refine cj_seq ?_
    refine cj_regionG (gj_step (y_move rfl) rfl rfl rfl (gj_step (y_assign rfl) rfl rfl rfl (gj_step (y_assign rfl) rfl rfl rfl (gj_nil ?_))))
    refine ej_th (cj_ret (ej_then_ret ?_))
    have e1 : FndL ms tk f = [] := by rw [FndL, FndE, if_neg hno]
    exact ej_ret2 rfl Tryz.results22 rfl rfl (fun w' hp => ⟨none, 0, by rw [e1]; rfl, hp.below, by rw [e1]; exact Res.nil⟩)
  · have h15b := h15
    try simp only [sxb] at h15
    obtain ⟨hmo, hto, hfo, hz⟩ := skill_0 h15b
    obtain ⟨hml, hmb⟩ := meas_bd hmo
    have htb := rdOk_bd hto
    obtain ⟨hfl, hfb⟩ := fakes_bd hfo
    refine cj_skip (ej_th (cj_seq (cj_region ?_)))
    refine oj_step (y_move rfl) rfl rfl rfl ?_
    refine oj_step (y_move rfl) rfl rfl rfl ?_
    refine oj_step (y_loadN Tryz.isAgg63 Tryz.sizeOf63 rfl) rfl rfl rfl ?_
    refine oj_callS (fun A c => .slice A (foundL ms tk f).length c) 1 enInt (foundL ms tk f) Tryz.call47 rfl (fun w hp => k_found ms A c tk At ct f w hp.rd hp.rd hp.rd hml.2 hmb htb (hfb f (List.mem_singleton.2 rfl)).1) rfl (fun A20 c20 fp20 hfp20 => ?_)
    refine oj_step (y_assign rfl) rfl rfl rfl ?_
    refine oj_step (y_assign rfl) rfl rfl rfl ?_
    refine oj_nil ?_
    refine ej_th (cj_ret ?_)
    have e1 : FndL ms tk f = (foundL ms tk f) := by rw [FndL, FndE, if_pos hz]
    have e2 : FndE ms tk f = 0 := hz
    exact ej_ret2 rfl Tryz.results22 rfl rfl (fun w' hp => ⟨A20, c20, by rw [e1, e2], hp.below, by rw [e1]; exact hp.resS hfp20⟩)

end Go.Proofs.YtlfbghkcfmcnlaaGreatDoor
namespace Go.Proofs.YtlfbghkcfmcnlaaGreatDoor
open Go.Sx Go.RowKit
set_option maxRecDepth 20000
theorem el54 : ElemIs Tryz.prog 54 70 2 16 := ⟨⟨_, (.agg #[.int .i64 0, .int .i64 0]), Tryz.underlying54, Tryz.type70, by kernel_rfl, by kernel_rfl, by kernel_rfl, by kernel_rfl, by decide⟩⟩
theorem st70 : StructIs Tryz.prog 70 [(0, 1), (1, 1)] [.int .i64 0, .int .i64 0] := ⟨⟨_, Tryz.underlying70, fun w => by simp [Tryz.sizeOf3], Tryz.zeroValue70⟩⟩
end Go.Proofs.YtlfbghkcfmcnlaaGreatDoor
namespace Go.Proofs.YtlfbghkcfmcnlaaGreatDoor
open Go.Sx Go.RowKit
set_option maxRecDepth 20000
theorem k_shows (ms : List Meas) (A : Option Addr) (c : Nat) (tk : List Int) (At : Option Addr) (ct : Nat) (fs : List FakeV) (Af : Option Addr) (cf : Nat) (set : List Int) (As : Option Addr) (cs : Nat) (w : World) (hm : Rd w 2 encMe A ms) (ht : Rd w 1 enInt At tk) (hf : Rd w 1 encFk Af fs) (hgf : ∀ f ∈ fs, GoodK w f) (hs : Rd w 1 enInt As set) (hml : ms.length ≤ 8) (hmb : ∀ m ∈ ms, (0 ≤ m.tol ∧ m.tol ≤ 1000) ∧ (1 ≤ m.lab ∧ m.lab ≤ 1000)) (htl : tk.length = ms.length ∧ ∀ x ∈ tk, -1 ≤ x ∧ x ≤ 100000) (hfb : ∀ f ∈ fs, f.has.length = ms.length) : Calls Tryz.prog 48 #[.slice A ms.length c, .slice At tk.length ct, .slice Af fs.length cf, .slice As set.length cs] w (fun e w' => e = .returned (.bool (shwB ms tk fs set)) ∧ Grow w w') := by
  have hlf := hf.len
  have hls := hs.len
  refine enter_pure (args := [.slice A ms.length c, .slice At tk.length ct, .slice Af fs.length cf, .slice As set.length cs]) [sl (fun b => b < w.heap.size) 2 encMe A ms, sl (fun b => b < w.heap.size) 1 enInt At tk, sl (fun b => b < w.heap.size) 1 encFk Af fs, sl (fun b => b < w.heap.size) 1 enInt As set] Tryz.func48 rfl (by rw [Tryz.ntmps48]; simp) (fun g hg => by simp at hg; rcases hg with rfl | rfl | rfl | rfl; exact ⟨hm, fun _ h => h⟩; exact ⟨ht, fun _ h => h⟩; exact ⟨hf, fun _ h => h⟩; exact ⟨hs, fun _ h => h⟩) ?_
  refine cj_seq ?_
  refine cj_regionG (gj_step (y_assign rfl) rfl rfl rfl (gj_nil ?_))
  refine ej_th ?_
  refine cj_scope rfl ?_
  refine cj_seq (cj_label (ej_th (cj_seq (cj_seq ?_))))
  refine cj_regionG (gj_step (y_move rfl) rfl rfl rfl (gj_step (y_lenA Tryz.underlying50 rfl) rfl rfl rfl (gj_step (y_move rfl) rfl rfl rfl (gj_nil ?_))))
  refine ej_th (cj_block ?_)
  refine cj_lpic (X := Nat) [(0, _), (1, _), (3, _), (13, _), (14, _)] (fun k => k ≤ fs.length ∧ (fs.drop k).all (shwF ms tk set) = shwB ms tk fs set) (fun k => [(15, .int .i64 k)]) (fun k => fs.length - k) 0 (⟨Nat.zero_le _, rfl⟩) ⟨rfl, rfl, rfl, rfl, rfl, rfl, trivial⟩ ?_
  rintro k ⟨hk, hsk⟩
  dsimp only [List.cons_append, List.nil_append]
  refine cj_seq ?_
  refine cj_regionG (gj_step (y_lss rfl rfl) rfl rfl rfl (gj_nil ?_))
  refine ej_th (cj_seq ?_)
  refine cj_cond rfl (fun h16 => ?_) (fun h16 => ?_)
  · have h16b := h16
    try simp only [sxb] at h16
    obtain ⟨f, hx⟩ : ∃ f, fs[k]? = some f := ⟨_, List.getElem?_eq_getElem (by omega)⟩
    rw [all_drop (shwF ms tk set) fs k f hx] at hsk
    have hgr := hgf f (List.mem_of_getElem? hx)
    have hl2 := hgr.len
    have hfn : (foundL ms tk f).length ≤ ms.length := fndF_len ms tk f.has 0
    refine cj_rd hgr (fun _ h => h) ?_
    refine cj_skip (ej_th (cj_seq (cj_block (cj_seq (cj_region ?_)))))
    refine oj_step (y_ixR (reads_sl) Tryz.underlying50 Tryz.sizeOf63 rfl rfl (⟨by omega, by omega⟩)) rfl rfl rfl ?_
    refine oj_step (y_ldW (reads_sl) Tryz.isAgg63 Tryz.sizeOf63 rfl (hx) (fun _ => rfl)) rfl rfl rfl ?_
    refine oj_alloc Tryz.zeroValue63 rfl rfl (fun b10 => ?_)
    refine oj_store rfl rfl rfl rfl Tryz.sizeOf63 rfl ?_
    refine oj_nil ?_
    refine ej_th (cj_seq (cj_seq (cj_region ?_)))
    refine oj_step (y_move rfl) rfl rfl rfl ?_
    refine oj_step (y_move rfl) rfl rfl rfl ?_
    refine oj_step (y_loadN Tryz.isAgg63 Tryz.sizeOf63 rfl) rfl rfl rfl ?_
    refine oj_callS (fun A c => .slice A (foundL ms tk f).length c) 1 enInt (foundL ms tk f) Tryz.call47 rfl (fun w hp => k_found ms A c tk At ct f w hp.rd hp.rd hp.rd hml hmb htl (hfb f (List.mem_of_getElem? hx))) rfl (fun A22 c22 fp22 hfp22 => ?_)
    refine oj_step (y_lenA Tryz.underlying49 rfl) rfl rfl rfl ?_
    refine oj_step (y_move rfl) rfl rfl rfl ?_
    refine oj_nil ?_
    refine ej_th (cj_block ?_)
    refine cj_lpic (X := Nat) [(15, _), (0, _), (1, _), (3, _), (13, _), (14, _), (22, _), (23, _)] (fun j => j ≤ (foundL ms tk f).length ∧ ((foundL ms tk f).drop j).any (hasI set) = shwF ms tk set f) (fun j => [(24, .int .i64 j)]) (fun j => (foundL ms tk f).length - j) 0 (⟨Nat.zero_le _, rfl⟩) ⟨rfl, rfl, rfl, rfl, rfl, rfl, rfl, rfl, rfl, trivial⟩ ?_
    rintro j ⟨hj, hsj⟩
    dsimp only [List.cons_append, List.nil_append]
    refine cj_seq ?_
    refine cj_regionG (gj_step (y_lss rfl rfl) rfl rfl rfl (gj_nil ?_))
    refine ej_th (cj_seq ?_)
    refine cj_cond rfl (fun h25 => ?_) (fun h25 => ?_)
    · have h25b := h25
      try simp only [sxb] at h25
      obtain ⟨i, hy⟩ : ∃ i, (foundL ms tk f)[j]? = some i := ⟨_, List.getElem?_eq_getElem (by omega)⟩
      rw [any_drop (hasI set) (foundL ms tk f) j i hy] at hsj
      refine cj_skip (ej_th (cj_seq (cj_block (cj_seq ?_))))
      refine cj_regionG (gj_step (y_ixR (reads_sl) Tryz.underlying49 Tryz.sizeOf3 rfl rfl (⟨by omega, by omega⟩)) rfl rfl rfl (gj_step (y_ld0 (reads_sl) Tryz.isAgg3 rfl (hy) rfl) rfl rfl rfl (gj_step (y_assign rfl) rfl rfl rfl (gj_nil ?_))))
      refine ej_th (cj_seq ?_)
      refine cj_regionG ?_
      refine gj_step (y_move rfl) rfl rfl rfl (gj_step (y_move rfl) rfl rfl rfl (?_))
      refine gj_step (y_call Tryz.call80 rfl (fun w hp => k_ContainsI _ _ _ _ w hp.rd)) rfl rfl rfl ?_
      refine gj_nil ?_
      refine ej_th ?_
      refine cj_cond rfl (fun h30 => ?_) (fun h30 => ?_)
      · have h30b := h30
        try simp only [sxb] at h30
        have hsf : shwF ms tk set f = true := by rw [← hsj, h30b]; rfl
        refine cj_exit (ej_blk_pass rfl (ej_then_exit (ej_then_exit (ej_blk_pass rfl (ej_then_exit (ej_blk_hit (ej_th ?_)))))))
        refine cj_regionG (gj_step (y_add rfl rfl (by omega)) rfl rfl rfl (gj_step (y_move rfl) rfl rfl rfl (gj_nil ?_)))
        exact ej_nx (k + 1) (by omega) ⟨by omega, by rw [← hsk, hsf, Bool.true_and]⟩ ⟨rfl, rfl, rfl, rfl, rfl, rfl, trivial⟩
      · have h30b := h30
        try simp only [sxb] at h30
        refine cj_skip (ej_blk (ej_th ?_))
        refine cj_regionG (gj_step (y_add rfl rfl (by omega)) rfl rfl rfl (gj_step (y_move rfl) rfl rfl rfl (gj_nil ?_)))
        exact ej_nx (j + 1) (by omega) ⟨by omega, by rw [← hsj, h30b, Bool.false_or]⟩ ⟨rfl, rfl, rfl, rfl, rfl, rfl, rfl, rfl, rfl, trivial⟩
    · have h25b := h25
      try simp only [sxb] at h25
      have hsf : shwF ms tk set f = false := by rw [← hsj, List.drop_of_length_le (show (foundL ms tk f).length ≤ j by omega)]; rfl
      refine cj_exit (ej_then_exit (ej_then_exit (ej_blk_hit (ej_th (cj_seq ?_)))))
      refine cj_regionG (gj_step (y_assign rfl) rfl rfl rfl (gj_nil ?_))
      refine ej_th (cj_ret (ej_blk_ret (ej_then_ret (ej_then_ret (ej_blk_ret (ej_then_ret (ej_noGoto_ret ?_)))))))
      refine ej_ret1 rfl Tryz.results48 rfl (fun w' hp => ⟨?_, hp.below⟩)
      rw [← hsk, hsf]; rfl
  · have h16b := h16
    try simp only [sxb] at h16
    refine cj_exit (ej_then_exit (ej_then_exit (ej_blk_hit (ej_th (cj_seq ?_)))))
    refine cj_regionG (gj_step (y_assign rfl) rfl rfl rfl (gj_nil ?_))
    refine ej_th (cj_ret (ej_noGoto_ret ?_))
    refine ej_ret1 rfl Tryz.results48 rfl (fun w' hp => ⟨?_, hp.below⟩)
    rw [← hsk, List.drop_of_length_le (by omega)]; rfl

theorem k_Shows (ms : List Meas) (A : Option Addr) (c : Nat) (tk : List Int) (At : Option Addr) (ct : Nat) (fs : List FakeV) (Af : Option Addr) (cf : Nat) (set : List Int) (As : Option Addr) (cs : Nat) (w : World) (hm : Rd w 2 encMe A ms) (ht : Rd w 1 enInt At tk) (hf : Rd w 1 encFk Af fs) (hgf : ∀ f ∈ fs, GoodK w f) (hs : Rd w 1 enInt As set) : Calls Tryz.prog 23 #[.slice A ms.length c, .slice At tk.length ct, .slice Af fs.length cf, .slice As set.length cs] w (fun e w' => e = .returned (.tuple #[.bool (ShwB ms tk fs set), .int .i64 (ShwE ms tk fs set)]) ∧ Grow w w') := by
  have hls := hs.len
  have hlm := hm.len
  refine enter_pure (args := [.slice A ms.length c, .slice At tk.length ct, .slice Af fs.length cf, .slice As set.length cs]) [sl (fun b => b < w.heap.size) 2 encMe A ms, sl (fun b => b < w.heap.size) 1 enInt At tk, sl (fun b => b < w.heap.size) 1 encFk Af fs, sl (fun b => b < w.heap.size) 1 enInt As set] Tryz.func23 rfl (by rw [Tryz.ntmps23]; simp) (fun g hg => by simp at hg; rcases hg with rfl | rfl | rfl | rfl; exact ⟨hm, fun _ h => h⟩; exact ⟨ht, fun _ h => h⟩; exact ⟨hf, fun _ h => h⟩; exact ⟨hs, fun _ h => h⟩) ?_
  refine cj_seq ?_
  refine cj_regionG (gj_step (y_assign rfl) rfl rfl rfl (gj_step (y_assign rfl) rfl rfl rfl (gj_nil ?_)))
  refine ej_th (cj_seq (cj_seq ?_))
  refine cj_regionG ?_
  refine gj_step (y_move rfl) rfl rfl rfl (gj_step (y_move rfl) rfl rfl rfl (gj_step (y_move rfl) rfl rfl rfl (?_)))
  refine gj_step (y_call Tryz.call46 rfl (fun w hp => k_skill ms A c tk At ct fs Af cf w hp.rd hp.rd hp.rd (fun f h => (hgf f h).mono hp.below))) rfl rfl rfl ?_
  refine gj_step (y_assign rfl) rfl rfl rfl (?_)
  refine gj_nil ?_
  refine ej_th (cj_seq ?_)
  refine cj_regionG (gj_step (y_move rfl) rfl rfl rfl (gj_step (y_neq rfl rfl) rfl rfl rfl (gj_nil ?_)))
  refine ej_th ?_
  refine cj_cond rfl (fun h18 => ?_) (fun h18 => ?_)
  · have h18b := h18
    try simp only [sxb] at h18
    have hno := skill_no h18b
    refine cj_seq ?_
    refine cj_regionG (gj_step (y_move rfl) rfl rfl rfl (gj_step (y_assign rfl) rfl rfl rfl (gj_step (y_assign rfl) rfl rfl rfl (gj_nil ?_))))
    refine ej_th (cj_ret (ej_then_ret ?_))
    obtain ⟨e1, e2⟩ := shw_no1 (set := set) hno
    exact ej_ret2 rfl Tryz.results23 rfl rfl (fun w' hp => ⟨by rw [e2, e1], hp.below⟩)
  · have h18b := h18
    try simp only [sxb] at h18
    obtain ⟨hmo, hto, hfo, hz⟩ := skill_0 h18b
    obtain ⟨hml, hmb⟩ := meas_bd hmo
    have htb := rdOk_bd hto
    obtain ⟨hfl, hfb⟩ := fakes_bd hfo
    refine cj_skip (ej_th (cj_seq (cj_seq ?_)))
    refine cj_regionG (gj_step (y_move rfl) rfl rfl rfl (gj_step (y_lenA Tryz.underlying49 rfl) rfl rfl rfl (gj_step (y_move rfl) rfl rfl rfl (gj_nil ?_))))
    refine ej_th (cj_block ?_)
    refine cj_lpic (X := Nat) [(0, _), (1, _), (2, _), (3, _), (20, _), (21, _)] (fun k => k ≤ set.length ∧ setF ms.length (set.drop k) (prevI set k) = setOk ms.length set) (fun k => [(22, .int .i64 k)]) (fun k => set.length - k) 0 (⟨Nat.zero_le _, rfl⟩) ⟨rfl, rfl, rfl, rfl, rfl, rfl, rfl, trivial⟩ ?_
    rintro k ⟨hk, hsk⟩
    dsimp only [List.cons_append, List.nil_append]
    refine cj_seq ?_
    refine cj_regionG (gj_step (y_lss rfl rfl) rfl rfl rfl (gj_nil ?_))
    refine ej_th (cj_seq ?_)
    refine cj_cond rfl (fun h23 => ?_) (fun h23 => ?_)
    · have h23b := h23
      try simp only [sxb] at h23
      obtain ⟨i, hx⟩ : ∃ i, set[k]? = some i := ⟨_, List.getElem?_eq_getElem (by omega)⟩
      rw [setF_drop ms.length set k i _ hx] at hsk
      have hq : prevI set k = if k = 0 then -1 else set.getD ((k : Int) - 1).toNat default := by
        unfold prevI
        rw [show ((k : Int) - 1).toNat = k - 1 by omega]
        rfl
      have hV := set_V ms.length i (set.getD ((k : Int) - 1).toNat default) k _ hq
      refine cj_skip (ej_th (cj_seq (cj_block (cj_seq ?_))))
      refine cj_regionG (gj_step (y_move rfl) rfl rfl rfl (gj_step (y_ixR (reads_sl) Tryz.underlying49 Tryz.sizeOf3 rfl rfl (⟨by omega, by omega⟩)) rfl rfl rfl (gj_step (y_ld0 (reads_sl) Tryz.isAgg3 rfl (hx) rfl) rfl rfl rfl (gj_step (y_assign rfl) rfl rfl rfl (gj_step (y_assign rfl) rfl rfl rfl (gj_nil ?_))))))
      refine ej_th (cj_seq ?_)
      refine cj_regionG ?_
      refine gj_step (y_move rfl) rfl rfl rfl (gj_step (y_move rfl) rfl rfl rfl (gj_step (y_lenA Tryz.underlying48 rfl) rfl rfl rfl (gj_step (y_sub rfl rfl (by omega)) rfl rfl rfl (?_))))
      refine gj_step (y_call Tryz.call45 rfl (fun w hp => k_within1 _ _ _ w)) rfl rfl rfl ?_
      refine gj_step (y_not rfl) rfl rfl rfl (gj_step (y_move rfl) rfl rfl rfl (?_))
      refine gj_g 11 33 44 rfl rfl rfl rfl (fun hg33 => gj_yes rfl rfl rfl (y_move rfl) rfl rfl (gj_yes rfl rfl rfl (y_gtr rfl rfl) rfl rfl (gj_yes rfl rfl rfl (y_move rfl) rfl rfl (gj_g 7 36 43 rfl rfl rfl rfl (fun hg36 => gj_yes rfl rfl rfl (y_move rfl) rfl rfl (gj_yes rfl rfl rfl (y_move rfl) rfl rfl (gj_yes rfl rfl rfl (y_sub rfl rfl (by omega)) rfl rfl (gj_yes rfl rfl rfl (y_ixR (reads_sl) Tryz.underlying49 Tryz.sizeOf3 rfl rfl (⟨by have := hg36; simp only [sxb] at this; omega, by have := hg36; simp only [sxb] at this; omega⟩)) rfl rfl (gj_yes rfl rfl rfl (y_ld0 (reads_sl) Tryz.isAgg3 rfl (geq default (by have := hg36; simp only [sxb] at this; omega)) rfl) rfl rfl (gj_yes rfl rfl rfl (y_move rfl) rfl rfl (gj_yes rfl rfl rfl (y_geq rfl rfl) rfl rfl (gj_nil rfl)))))))) (gj_yes rfl rfl rfl (y_and rfl rfl rfl) rfl rfl (gj_nil rfl)))))) ?_
      refine gj_step (y_or rfl rfl rfl) rfl rfl rfl (?_)
      refine gj_nil ?_
      refine ej_th ?_
      refine cj_cond rfl (fun h45 => ?_) (fun h45 => ?_)
      · have h45b := h45
        try simp only [sxb] at h45
        refine cj_seq ?_
        refine cj_regionG (gj_step (y_assign rfl) rfl rfl rfl (gj_step (y_assign rfl) rfl rfl rfl (gj_nil ?_)))
        refine ej_th (cj_ret (ej_blk_ret (ej_then_ret (ej_then_ret (ej_blk_ret (ej_then_ret ?_))))))
        obtain ⟨e1, e2⟩ := shw_no2 hz (show setOk ms.length set = false by rw [← hsk, not_t (hV.symm.trans h45b)]; rfl)
        exact ej_ret2 rfl Tryz.results23 rfl rfl (fun w' hp => ⟨by rw [e2, e1], hp.below⟩)
      · have h45b := h45
        try simp only [sxb] at h45
        refine cj_skip (ej_blk (ej_th ?_))
        refine cj_regionG (gj_step (y_add rfl rfl (by omega)) rfl rfl rfl (gj_step (y_move rfl) rfl rfl rfl (gj_nil ?_)))
        exact ej_nx (k + 1) (by omega) ⟨by omega, by rw [← hsk, not_f (hV.symm.trans h45b), Bool.true_and, prevI_succ set k i hx]⟩ ⟨rfl, rfl, rfl, rfl, rfl, rfl, rfl, trivial⟩
    · have h23b := h23
      try simp only [sxb] at h23
      have hso : setOk ms.length set = true := by rw [← hsk, List.drop_of_length_le (by omega)]; rfl
      refine cj_exit (ej_then_exit (ej_then_exit (ej_blk_hit (ej_th (cj_seq ?_)))))
      refine cj_regionG ?_
      refine gj_step (y_move rfl) rfl rfl rfl (gj_step (y_move rfl) rfl rfl rfl (gj_step (y_move rfl) rfl rfl rfl (gj_step (y_move rfl) rfl rfl rfl (?_))))
      refine gj_step (y_call Tryz.call48 rfl (fun w hp => k_shows ms A c tk At ct fs Af cf set As cs w hp.rd hp.rd hp.rd (fun f h => (hgf f h).mono hp.below) hp.rd hml.2 hmb htb (fun f h => (hfb f h).1))) rfl rfl rfl ?_
      refine gj_step (y_assign rfl) rfl rfl rfl (gj_step (y_assign rfl) rfl rfl rfl (?_))
      refine gj_nil ?_
      refine ej_th (cj_ret ?_)
      obtain ⟨e1, e2⟩ := shw_yes hz hso
      exact ej_ret2 rfl Tryz.results23 rfl rfl (fun w' hp => ⟨by rw [e2, e1], hp.below⟩)

theorem k_Narrow (ms : List Meas) (A : Option Addr) (c : Nat) (ls : List ListV) (B : Option Addr) (d : Nat) (w : World) (hm : Rd w 2 encMe A ms) (hl : Rd w 1 encLs B ls) (hgl : ∀ r ∈ ls, GoodL w r) : Calls Tryz.prog 20 #[.slice A ms.length c, .slice B ls.length d] w (fun e w' => ∃ A c, e = .returned (.tuple #[.slice A (NarL ms ls).length c, .int .i64 (NarE ms ls)]) ∧ Grow w w' ∧ Res w w' 2 encSp A (NarL ms ls)) := by
  have hlm := hm.len
  have hll := hl.len
  refine enter_pure (args := [.slice A ms.length c, .slice B ls.length d]) [sl (fun b => b < w.heap.size) 2 encMe A ms, sl (fun b => b < w.heap.size) 1 encLs B ls] Tryz.func20 rfl (by rw [Tryz.ntmps20]; simp) (fun g hg => by simp at hg; rcases hg with rfl | rfl; exact ⟨hm, fun _ h => h⟩; exact ⟨hl, fun _ h => h⟩) ?_
  refine cj_seq ?_
  refine cj_regionG (gj_step (y_assign rfl) rfl rfl rfl (gj_step (y_assign rfl) rfl rfl rfl (gj_nil ?_)))
  refine ej_th (cj_seq (cj_seq ?_))
  refine cj_regionG ?_
  refine gj_step (y_move rfl) rfl rfl rfl (?_)
  refine gj_step (y_call Tryz.call43 rfl (fun w hp => k_CheckM _ _ _ w hp.rd)) rfl rfl rfl ?_
  refine gj_step (y_assign rfl) rfl rfl rfl (?_)
  refine gj_nil ?_
  refine ej_th (cj_seq ?_)
  refine cj_regionG (gj_step (y_move rfl) rfl rfl rfl (gj_step (y_neq rfl rfl) rfl rfl rfl (gj_nil ?_)))
  refine ej_th ?_
  refine cj_cond rfl (fun h17 => ?_) (fun h17 => ?_)
  · have h17b := h17
    try simp only [sxb] at h17
    have hno := meas_no h17b
    refine cj_seq ?_
    refine cj_regionG (gj_step (y_move rfl) rfl rfl rfl (gj_step (y_assign rfl) rfl rfl rfl (gj_step (y_assign rfl) rfl rfl rfl (gj_nil ?_))))
    refine ej_th (cj_ret (ej_then_ret ?_))
    obtain ⟨e1, e2⟩ := nar_no1 (ls := ls) hno
    exact ej_ret2 rfl Tryz.results20 rfl rfl (fun w' hp => ⟨none, 0, by rw [e1, e2, measE, hno]; rfl, hp.below, by rw [e2]; exact Res.nil⟩)
  · have h17b := h17
    try simp only [sxb] at h17
    have hmo := meas_0 h17b
    obtain ⟨hml, hmb⟩ := meas_bd hmo
    refine cj_skip (ej_th (cj_seq (cj_seq ?_)))
    refine cj_regionG (gj_step (y_move rfl) rfl rfl rfl (gj_step (y_lenA Tryz.underlying57 rfl) rfl rfl rfl (gj_step (y_gtr rfl rfl) rfl rfl rfl (gj_nil ?_))))
    refine ej_th ?_
    refine cj_cond rfl (fun h21 => ?_) (fun h21 => ?_)
    · have h21b := h21
      try simp only [sxb] at h21
      refine cj_seq ?_
      refine cj_regionG (gj_step (y_assign rfl) rfl rfl rfl (gj_step (y_assign rfl) rfl rfl rfl (gj_nil ?_)))
      refine ej_th (cj_ret (ej_then_ret ?_))
      obtain ⟨e1, e2⟩ := nar_no2 hmo h21b
      exact ej_ret2 rfl Tryz.results20 rfl rfl (fun w' hp => ⟨none, 0, by rw [e1, e2]; rfl, hp.below, by rw [e2]; exact Res.nil⟩)
    · have h21b := h21
      try simp only [sxb] at h21
      refine cj_skip (ej_th (cj_seq (cj_seq ?_)))
      refine cj_regionG ?_
      refine gj_step (y_move rfl) rfl rfl rfl (gj_step (y_move rfl) rfl rfl rfl (?_))
      refine gj_step (y_call Tryz.call44 rfl (fun w hp => k_readings ms A c ls B d w hp.rd (fun r h => (hgl r h).mono hp.below))) rfl rfl rfl ?_
      refine gj_step (y_assign rfl) rfl rfl rfl (?_)
      refine gj_nil ?_
      refine ej_th (cj_seq ?_)
      refine cj_regionG (gj_step (y_move rfl) rfl rfl rfl (gj_step (y_neq rfl rfl) rfl rfl rfl (gj_nil ?_)))
      refine ej_th ?_
      refine cj_cond rfl (fun h26 => ?_) (fun h26 => ?_)
      · have h26b := h26
        try simp only [sxb] at h26
        have hro := rds_no h26b
        refine cj_seq ?_
        refine cj_regionG (gj_step (y_move rfl) rfl rfl rfl (gj_step (y_assign rfl) rfl rfl rfl (gj_step (y_assign rfl) rfl rfl rfl (gj_nil ?_))))
        refine ej_th (cj_ret (ej_then_ret ?_))
        obtain ⟨e1, e2⟩ := nar_no3 hmo h21b hro
        exact ej_ret2 rfl Tryz.results20 rfl rfl (fun w' hp => ⟨none, 0, by rw [e1, e2, rdsE, hro]; rfl, hp.below, by rw [e2]; exact Res.nil⟩)
      · have h26b := h26
        try simp only [sxb] at h26
        have hro := rds_0 h26b
        have hrb := rdsV_bd hro
        refine cj_skip (ej_th (cj_seq ?_))
        refine cj_regionG (gj_step (y_assign rfl) rfl rfl rfl (gj_nil ?_))
        refine ej_th (cj_seq (cj_seq ?_))
        refine cj_regionG (gj_step (y_move rfl) rfl rfl rfl (gj_step (y_lenA Tryz.underlying48 rfl) rfl rfl rfl (gj_step (y_move rfl) rfl rfl rfl (gj_nil ?_))))
        refine ej_th (cj_block ?_)
        refine cj_ownNil 70 2 encSp ?_
        refine cj_lpi (X := Nat × Option Addr × Nat × List Span) [(1, _), (28, _), (29, _)] (fun ⟨k, A1, c1, xs⟩ => k ≤ ms.length ∧ xs.length ≤ k ∧ (narF ls (ms.drop k) k).map (xs ++ ·) = narF ls ms 0) (fun ⟨k, A1, c1, xs⟩ => [(8, .slice A1 xs.length c1), (30, .int .i64 k)]) (fun ⟨k, A1, c1, xs⟩ => [ow 70 2 encSp A1 c1 xs]) (fun ⟨k, A1, c1, xs⟩ => [sl (fun b => b < w.heap.size) 2 encMe A ms, sl (fun b => b < w.heap.size) 1 encLs B ls]) (fun ⟨k, A1, c1, xs⟩ => ms.length - k) (0, none, 0, []) (⟨Nat.zero_le _, Nat.zero_le _, by simp⟩) ⟨rfl, rfl, rfl, rfl, rfl, trivial⟩ ?_
        rintro ⟨k, A1, c1, xs⟩ ⟨hk, hxl, hxs⟩
        dsimp only [List.cons_append, List.nil_append]
        refine cj_seq ?_
        refine cj_regionG (gj_step (y_lss rfl rfl) rfl rfl rfl (gj_nil ?_))
        refine ej_th (cj_seq ?_)
        refine cj_cond rfl (fun h31 => ?_) (fun h31 => ?_)
        · have h31b := h31
          try simp only [sxb] at h31
          obtain ⟨m, hx⟩ : ∃ m, ms[k]? = some m := ⟨_, List.getElem?_eq_getElem (by omega)⟩
          rw [narF_drop ls ms k m hx] at hxs
          have hmt := hmb m (List.mem_of_getElem? hx)
          refine cj_skip (ej_th (cj_seq (cj_block (cj_seq (cj_region ?_)))))
          refine oj_step (y_move rfl) rfl rfl rfl ?_
          refine oj_step (y_ixR (reads_sl) Tryz.underlying48 Tryz.sizeOf98 rfl rfl (⟨by omega, by omega⟩)) rfl rfl rfl ?_
          refine oj_step (y_ldW (reads_sl) Tryz.isAgg98 Tryz.sizeOf98 rfl (hx) (fun _ => rfl)) rfl rfl rfl ?_
          refine oj_alloc Tryz.zeroValue98 rfl rfl (fun b10 => ?_)
          refine oj_step (y_assign rfl) rfl rfl rfl ?_
          refine oj_store rfl rfl rfl rfl Tryz.sizeOf98 rfl ?_
          refine oj_nil ?_
          refine ej_th (cj_seq (cj_region ?_))
          refine oj_step (y_build (cs := [.int .i64 0, .int .i64 100000]) st70 rfl (by kernel_rfl)) rfl rfl rfl ?_
          refine oj_alloc Tryz.zeroValue70 rfl rfl (fun b11 => ?_)
          refine oj_store rfl rfl rfl rfl Tryz.sizeOf70 rfl ?_
          refine oj_nil ?_
          refine ej_th (cj_seq (cj_seq ?_))
          refine cj_regionG (gj_step (y_move rfl) rfl rfl rfl (gj_step (y_lenA Tryz.underlying57 rfl) rfl rfl rfl (gj_step (y_move rfl) rfl rfl rfl (gj_nil ?_))))
          refine ej_th (cj_block ?_)
          refine cj_lpi (X := Nat × Int × Int) [(8, _), (30, _), (1, _), (28, _), (29, _), (10, _), (9, _), (11, _), (36, _), (37, _)] (fun ⟨j, lo, hi⟩ => j ≤ ls.length ∧ (-2000 ≤ lo ∧ lo ≤ 102000 ∧ -2000 ≤ hi ∧ hi ≤ 102000) ∧ narS m.tol ⟨lo, hi⟩ ((col k ls).drop j) = spK ls k m) (fun ⟨j, lo, hi⟩ => [(38, .int .i64 j)]) (fun ⟨j, lo, hi⟩ => [ownB b11 (cellsB 70 [.int .i64 lo, .int .i64 hi]), ownB b10 (cellsB 98 [.int .i64 m.tol, .int .i64 m.lab]), ow 70 2 encSp A1 c1 xs]) (fun ⟨j, lo, hi⟩ => [sl (fun b => b < w.heap.size) 2 encMe A ms, sl (fun b => b < w.heap.size) 1 encLs B ls]) (fun ⟨j, lo, hi⟩ => ls.length - j) (0, 0, 100000) (⟨Nat.zero_le _, by omega, rfl⟩) ⟨rfl, rfl, rfl, rfl, rfl, rfl, rfl, rfl, rfl, rfl, rfl, trivial⟩ ?_
          rintro ⟨j, lo, hi⟩ ⟨hj, hbd, hsj⟩
          dsimp only [List.cons_append, List.nil_append]
          refine cj_seq ?_
          refine cj_regionG (gj_step (y_lss rfl rfl) rfl rfl rfl (gj_nil ?_))
          refine ej_th (cj_seq ?_)
          refine cj_cond rfl (fun h39 => ?_) (fun h39 => ?_)
          · have h39b := h39
            try simp only [sxb] at h39
            obtain ⟨r, hy⟩ : ∃ r, ls[j]? = some r := ⟨_, List.getElem?_eq_getElem (by omega)⟩
            have hgr := hgl r (List.mem_of_getElem? hy)
            have hl2 := hgr.len
            have hrr := hrb r (List.mem_of_getElem? hy)
            obtain ⟨n, hn⟩ : ∃ n, r.l[k]? = some n := ⟨_, List.getElem?_eq_getElem (by omega)⟩
            have hnb := hrr.2 n (List.mem_of_getElem? hn)
            rw [narS_drop m.tol ⟨lo, hi⟩ _ j n (col_get ls j k r n hy hn)] at hsj
            refine cj_rd hgr (fun _ h => h) ?_
            refine cj_skip (ej_th (cj_seq (cj_block (cj_seq ?_))))
            refine cj_regionG (gj_step (y_ixR (reads_sl) Tryz.underlying57 Tryz.sizeOf49 rfl rfl (⟨by omega, by omega⟩)) rfl rfl rfl (gj_step (y_ld0 (reads_sl) Tryz.isAgg49 rfl (hy) rfl) rfl rfl rfl (gj_step (y_assign rfl) rfl rfl rfl (gj_nil ?_))))
            refine ej_th (cj_seq ?_)
            refine cj_regionG (gj_step (y_move rfl) rfl rfl rfl (gj_step (y_move rfl) rfl rfl rfl (gj_step (y_ixR (reads_sl) Tryz.underlying49 Tryz.sizeOf3 rfl rfl (⟨by omega, by omega⟩)) rfl rfl rfl (gj_step (y_ld0 (reads_sl) Tryz.isAgg3 rfl (hn) rfl) rfl rfl rfl (gj_step (y_geq rfl rfl) rfl rfl rfl (gj_nil ?_))))))
            refine ej_th ?_
            refine cj_cond rfl (fun h46 => ?_) (fun h46 => ?_)
            · have h46b := h46
              try simp only [sxb] at h46
              have hn1 : nar1 m.tol ⟨lo, hi⟩ n = ⟨max lo (n - m.tol), min hi (n + m.tol)⟩ := by unfold nar1; rw [if_pos h46]
              rw [hn1] at hsj
              refine cj_plan 22 (by kernel_rfl) (by kernel_rfl) ?_
              refine pl_y 0 rfl (y_fa0 fa70_0 rfl) rfl rfl rfl rfl (by kernel_rfl) ?_
              refine pl_y 1 rfl (y_load1 Tryz.isAgg3 rfl rfl) rfl rfl rfl rfl (by kernel_rfl) ?_
              refine pl_y 2 rfl (y_move rfl) rfl rfl rfl rfl (by kernel_rfl) ?_
              refine pl_y 3 rfl (y_move rfl) rfl rfl rfl rfl (by kernel_rfl) ?_
              refine pl_y 4 rfl (y_ixR (reads_sl) Tryz.underlying49 Tryz.sizeOf3 rfl rfl (⟨by omega, by omega⟩)) rfl rfl rfl rfl (by kernel_rfl) ?_
              refine pl_y 5 rfl (y_ld0 (reads_sl) Tryz.isAgg3 rfl (hn) rfl) rfl rfl rfl rfl (by kernel_rfl) ?_
              refine pl_y 6 rfl (y_fa0 fa98_0 rfl) rfl rfl rfl rfl (by kernel_rfl) ?_
              refine pl_y 7 rfl (y_load1 Tryz.isAgg3 rfl rfl) rfl rfl rfl rfl (by kernel_rfl) ?_
              refine pl_y 8 rfl (y_sub rfl rfl (by omega)) rfl rfl rfl rfl (by kernel_rfl) ?_
              refine pl_y 9 rfl (y_max rfl rfl) rfl rfl rfl rfl (by kernel_rfl) ?_
              refine pl_y 10 rfl (y_fa fa70_1 rfl) rfl rfl rfl rfl (by kernel_rfl) ?_
              refine pl_y 11 rfl (y_load1 Tryz.isAgg3 rfl rfl) rfl rfl rfl rfl (by kernel_rfl) ?_
              refine pl_y 12 rfl (y_move rfl) rfl rfl rfl rfl (by kernel_rfl) ?_
              refine pl_y 13 rfl (y_move rfl) rfl rfl rfl rfl (by kernel_rfl) ?_
              refine pl_y 14 rfl (y_ixR (reads_sl) Tryz.underlying49 Tryz.sizeOf3 rfl rfl (⟨by omega, by omega⟩)) rfl rfl rfl rfl (by kernel_rfl) ?_
              refine pl_y 15 rfl (y_ld0 (reads_sl) Tryz.isAgg3 rfl (hn) rfl) rfl rfl rfl rfl (by kernel_rfl) ?_
              refine pl_y 16 rfl (y_fa0 fa98_0 rfl) rfl rfl rfl rfl (by kernel_rfl) ?_
              refine pl_y 17 rfl (y_load1 Tryz.isAgg3 rfl rfl) rfl rfl rfl rfl (by kernel_rfl) ?_
              refine pl_y 18 rfl (y_add rfl rfl (by omega)) rfl rfl rfl rfl (by kernel_rfl) ?_
              refine pl_y 19 rfl (y_min rfl rfl) rfl rfl rfl rfl (by kernel_rfl) ?_
              refine pl_y 20 rfl (y_build (cs := [.int .i64 (max lo (n - m.tol)), .int .i64 (min hi (n + m.tol))]) st70 rfl (by kernel_rfl)) rfl rfl rfl rfl (by kernel_rfl) ?_
              refine pl_w1 21 (by kernel_rfl) rfl rfl (pl_fire rfl rfl rfl (by kernel_rfl) ?_)
              refine oj_store rfl rfl rfl rfl Tryz.sizeOf70 rfl ?_
              refine oj_nil ?_
              refine ej_pl (lt_w (by kernel_rfl) (lt_w (by kernel_rfl) (lt_w (by kernel_rfl) (lt_w (by kernel_rfl) (lt_w (by kernel_rfl) (lt_w (by kernel_rfl) (lt_w (by kernel_rfl) (lt_w (by kernel_rfl) (lt_w (by kernel_rfl) (lt_w (by kernel_rfl) (lt_w (by kernel_rfl) (lt_w (by kernel_rfl) (lt_w (by kernel_rfl) (lt_w (by kernel_rfl) (lt_w (by kernel_rfl) (lt_w (by kernel_rfl) (lt_w (by kernel_rfl) (lt_w (by kernel_rfl) (lt_w (by kernel_rfl) (lt_w (by kernel_rfl) (lt_w (by kernel_rfl) (lt_nil)))))))))))))))))))))) ?_
              refine pl_end (by kernel_rfl) ?_
              refine ej_blk (ej_th ?_)
              refine cj_regionG (gj_step (y_add rfl rfl (by omega)) rfl rfl rfl (gj_step (y_move rfl) rfl rfl rfl (gj_nil ?_)))
              exact ej_nx (j + 1, max lo (n - m.tol), min hi (n + m.tol)) (by simp only; omega) ⟨by first | omega | (simp only; omega), by simp only; omega, hsj⟩ ⟨rfl, rfl, rfl, rfl, rfl, rfl, rfl, rfl, rfl, rfl, rfl, trivial⟩
            · have h46b := h46
              try simp only [sxb] at h46
              have hn1 : nar1 m.tol ⟨lo, hi⟩ n = ⟨lo, hi⟩ := by unfold nar1; rw [if_neg (by omega)]
              rw [hn1] at hsj
              refine cj_skip (ej_blk (ej_th ?_))
              refine cj_regionG (gj_step (y_add rfl rfl (by omega)) rfl rfl rfl (gj_step (y_move rfl) rfl rfl rfl (gj_nil ?_)))
              exact ej_nx (j + 1, lo, hi) (by simp only; omega) ⟨by first | omega | (simp only; omega), hbd, hsj⟩ ⟨rfl, rfl, rfl, rfl, rfl, rfl, rfl, rfl, rfl, rfl, rfl, trivial⟩
          · have h39b := h39
            try simp only [sxb] at h39
            rw [List.drop_of_length_le (by rw [col_len]; omega)] at hsj
            have hsp : spK ls k m = ⟨lo, hi⟩ := hsj.symm
            refine cj_exit (ej_then_exit (ej_then_exit (ej_blk_hit (ej_th (cj_seq (cj_seq ?_))))))
            refine cj_regionG (gj_step (y_fa0 fa70_0 rfl) rfl rfl rfl (gj_step (y_load1 Tryz.isAgg3 rfl rfl) rfl rfl rfl (gj_step (y_fa fa70_1 rfl) rfl rfl rfl (gj_step (y_load1 Tryz.isAgg3 rfl rfl) rfl rfl rfl (gj_step (y_gtr rfl rfl) rfl rfl rfl (gj_nil ?_))))))
            refine ej_th ?_
            refine cj_cond rfl (fun h73 => ?_) (fun h73 => ?_)
            · have h73b := h73
              try simp only [sxb] at h73
              rw [hsp, if_pos (by simp only; omega)] at hxs
              refine cj_seq ?_
              refine cj_regionG (gj_step (y_assign rfl) rfl rfl rfl (gj_step (y_assign rfl) rfl rfl rfl (gj_nil ?_)))
              refine ej_th (cj_ret (ej_then_ret (ej_blk_ret (ej_then_ret (ej_then_ret (ej_blk_ret (ej_then_ret ?_)))))))
              obtain ⟨e1, e2⟩ := nar_no4 hmo h21b hro hxs.symm
              exact ej_ret2 rfl Tryz.results20 rfl rfl (fun w' hp => ⟨none, 0, by rw [e1, e2]; rfl, hp.below, by rw [e2]; exact Res.nil⟩)
            · have h73b := h73
              try simp only [sxb] at h73
              rw [hsp, if_neg (by simp only; omega)] at hxs
              refine cj_skip (ej_th (cj_region ?_))
              refine oj_step (y_move rfl) rfl rfl rfl ?_
              refine oj_step (y_loadN Tryz.isAgg70 Tryz.sizeOf70 rfl) rfl rfl rfl ?_
              refine oj_buildSlice (cs := [.int .i64 lo, .int .i64 hi]) [.int .i64 0, .int .i64 0] Tryz.underlying54 Tryz.sizeOf70 Tryz.zeroValue70 rfl rfl (by kernel_rfl) (by kernel_rfl) rfl (fun b76 => ?_)
              refine oj_append  el54 (fun _ => rfl) encSp_one rfl rfl rfl (reads_lit [(⟨lo, hi⟩ : Span)] (fun _ => rfl) rfl) (by simp [maxLen]; omega) (by simp; omega) rfl (fun A77 c77 => ?_)
              refine oj_step (y_assign rfl) rfl rfl rfl ?_
              refine oj_nil ?_
              refine ej_blk (ej_th ?_)
              refine cj_regionG (gj_step (y_add rfl rfl (by omega)) rfl rfl rfl (gj_step (y_move rfl) rfl rfl rfl (gj_nil ?_)))
              exact ej_nx (k + 1, A77, c77, xs ++ [⟨lo, hi⟩]) (by simp only; omega) ⟨by first | omega | (simp only; omega), by simp only [List.length_append, List.length_cons, List.length_nil]; omega, by rw [← hxs]; cases narF ls (ms.drop (k + 1)) (k + 1) <;> simp⟩ ⟨rfl, rfl, rfl, rfl, rfl, trivial⟩
        · have h31b := h31
          try simp only [sxb] at h31
          rw [List.drop_of_length_le (show ms.length ≤ k by omega)] at hxs
          refine cj_exit (ej_then_exit (ej_then_exit (ej_blk_hit (ej_th (cj_seq ?_)))))
          refine cj_regionG (gj_step (y_move rfl) rfl rfl rfl (gj_step (y_assign rfl) rfl rfl rfl (gj_step (y_assign rfl) rfl rfl rfl (gj_nil ?_))))
          refine ej_th (cj_ret ?_)
          obtain ⟨e1, e2⟩ := nar_yes hmo h21b hro (hxs.symm.trans (by simp [narF] : _ = some xs))
          exact ej_ret2 rfl Tryz.results20 rfl rfl (fun w' hp => ⟨A1, c1, by rw [e1, e2], hp.below, by rw [e2]; exact hp.res (fun _ => rfl) (by unfold maxLen; omega)⟩)

theorem k_Agree (ms : List Meas) (A : Option Addr) (c : Nat) (a b : List Int) (Aa Ab : Option Addr) (ca cb : Nat) (w : World) (hm : Rd w 2 encMe A ms) (ha : Rd w 1 enInt Aa a) (hb : Rd w 1 enInt Ab b) : Calls Tryz.prog 21 #[.slice A ms.length c, .slice Aa a.length ca, .slice Ab b.length cb] w (fun e w' => e = .returned (.tuple #[.bool (AgrB ms a b), .int .i64 (AgrE ms a b)]) ∧ Grow w w') := by
  have hlm := hm.len
  refine enter_pure (args := [.slice A ms.length c, .slice Aa a.length ca, .slice Ab b.length cb]) [sl (fun b => b < w.heap.size) 2 encMe A ms, sl (fun b => b < w.heap.size) 1 enInt Aa a, sl (fun b => b < w.heap.size) 1 enInt Ab b] Tryz.func21 rfl (by rw [Tryz.ntmps21]; simp) (fun g hg => by simp at hg; rcases hg with rfl | rfl | rfl; exact ⟨hm, fun _ h => h⟩; exact ⟨ha, fun _ h => h⟩; exact ⟨hb, fun _ h => h⟩) ?_
  refine cj_seq ?_
  refine cj_regionG (gj_step (y_assign rfl) rfl rfl rfl (gj_step (y_assign rfl) rfl rfl rfl (gj_nil ?_)))
  refine ej_th (cj_seq (cj_seq ?_))
  refine cj_regionG ?_
  refine gj_step (y_move rfl) rfl rfl rfl (?_)
  refine gj_step (y_call Tryz.call43 rfl (fun w hp => k_CheckM _ _ _ w hp.rd)) rfl rfl rfl ?_
  refine gj_step (y_assign rfl) rfl rfl rfl (?_)
  refine gj_nil ?_
  refine ej_th (cj_seq ?_)
  refine cj_regionG (gj_step (y_move rfl) rfl rfl rfl (gj_step (y_neq rfl rfl) rfl rfl rfl (gj_nil ?_)))
  refine ej_th ?_
  refine cj_cond rfl (fun h15 => ?_) (fun h15 => ?_)
  · have h15b := h15
    try simp only [sxb] at h15
    have hno := meas_no h15b
    refine cj_seq ?_
    refine cj_regionG (gj_step (y_move rfl) rfl rfl rfl (gj_step (y_assign rfl) rfl rfl rfl (gj_step (y_assign rfl) rfl rfl rfl (gj_nil ?_))))
    refine ej_th (cj_ret (ej_then_ret ?_))
    obtain ⟨e1, e2⟩ := agr_no1 (a := a) (b := b) hno
    exact ej_ret2 rfl Tryz.results21 rfl rfl (fun w' hp => ⟨by rw [e2, e1, measE, hno]; rfl, hp.below⟩)
  · have h15b := h15
    try simp only [sxb] at h15
    have hmo := meas_0 h15b
    obtain ⟨hml, hmb⟩ := meas_bd hmo
    refine cj_skip (ej_th (cj_seq (cj_seq (cj_region ?_))))
    refine oj_step (y_move rfl) rfl rfl rfl ?_
    refine oj_step (y_move rfl) rfl rfl rfl ?_
    refine oj_step (y_move rfl) rfl rfl rfl ?_
    refine oj_buildSlice (cs := [.slice Aa a.length ca, .slice Ab b.length cb]) [.slice none 0 0, .slice none 0 0] Tryz.underlying57 Tryz.sizeOf49 Tryz.zeroValue49 rfl rfl (by kernel_rfl) (by kernel_rfl) rfl (fun b20 => ?_)
    refine oj_step (y_call Tryz.call44 rfl (fun w hp => k_readings ms A c [⟨Aa, ca, a⟩, ⟨Ab, cb, b⟩] (some ⟨b20, 0, none⟩) 2 w (hp.rdLit (sz := 1) (enc := encLs) [⟨Aa, ca, a⟩, ⟨Ab, cb, b⟩] (fun _ => rfl) rfl (by unfold maxLen; simp)) (fun r hr => by
      simp only [List.mem_cons, List.mem_nil_iff, or_false] at hr
      rcases hr with rfl | rfl
      · exact ha.mono hp.below
      · exact hb.mono hp.below))) rfl rfl rfl ?_
    refine oj_step (y_assign rfl) rfl rfl rfl ?_
    refine oj_nil ?_
    refine ej_th (cj_seq ?_)
    refine cj_regionG (gj_step (y_move rfl) rfl rfl rfl (gj_step (y_neq rfl rfl) rfl rfl rfl (gj_nil ?_)))
    refine ej_th ?_
    refine cj_cond rfl (fun h23 => ?_) (fun h23 => ?_)
    · have h23b := h23
      try simp only [sxb] at h23
      have hro : (rdOk ms.length a && rdOk ms.length b) = false := by have := rds_no h23b; simpa [rdOkV] using this
      refine cj_seq ?_
      refine cj_regionG (gj_step (y_move rfl) rfl rfl rfl (gj_step (y_assign rfl) rfl rfl rfl (gj_step (y_assign rfl) rfl rfl rfl (gj_nil ?_))))
      refine ej_th (cj_ret (ej_then_ret ?_))
      have hr0 := rds_no h23b
      obtain ⟨e1, e2⟩ := agr_no2 hmo hro
      exact ej_ret2 rfl Tryz.results21 rfl rfl (fun w' hp => ⟨by rw [e2, e1, rdsE, hr0]; rfl, hp.below⟩)
    · have h23b := h23
      try simp only [sxb] at h23
      have hro : (rdOk ms.length a && rdOk ms.length b) = true := by have := rds_0 h23b; simpa [rdOkV] using this
      have hrp := Bool.and_eq_true_iff.1 hro
      have hab := rdOk_bd hrp.1
      have hbb := rdOk_bd hrp.2
      refine cj_skip (ej_th (cj_seq (cj_seq ?_)))
      refine cj_regionG (gj_step (y_move rfl) rfl rfl rfl (gj_step (y_lenA Tryz.underlying48 rfl) rfl rfl rfl (gj_step (y_move rfl) rfl rfl rfl (gj_nil ?_))))
      refine ej_th (cj_block ?_)
      refine cj_lpic (X := Nat) [(1, _), (2, _), (25, _), (26, _)] (fun k => k ≤ ms.length ∧ agrF (ms.drop k) (a.drop k) (b.drop k) = agrF ms a b) (fun k => [(27, .int .i64 k)]) (fun k => ms.length - k) 0 (⟨Nat.zero_le _, rfl⟩) ⟨rfl, rfl, rfl, rfl, rfl, trivial⟩ ?_
      rintro k ⟨hk, hsk⟩
      dsimp only [List.cons_append, List.nil_append]
      refine cj_seq ?_
      refine cj_regionG (gj_step (y_lss rfl rfl) rfl rfl rfl (gj_nil ?_))
      refine ej_th (cj_seq ?_)
      refine cj_cond rfl (fun h28 => ?_) (fun h28 => ?_)
      · have h28b := h28
        try simp only [sxb] at h28
        obtain ⟨m, hx⟩ : ∃ m, ms[k]? = some m := ⟨_, List.getElem?_eq_getElem (by omega)⟩
        obtain ⟨p, hy⟩ : ∃ p, a[k]? = some p := ⟨_, List.getElem?_eq_getElem (by omega)⟩
        obtain ⟨q, hz⟩ : ∃ q, b[k]? = some q := ⟨_, List.getElem?_eq_getElem (by omega)⟩
        rw [agrF_drop ms a b k m p q hx hy hz] at hsk
        have hmt := hmb m (List.mem_of_getElem? hx)
        have hpb := hab.2 p (List.mem_of_getElem? hy)
        have hqb := hbb.2 q (List.mem_of_getElem? hz)
        refine cj_skip (ej_th (cj_seq (cj_block (cj_seq (cj_region ?_)))))
        refine oj_step (y_move rfl) rfl rfl rfl ?_
        refine oj_step (y_ixR (reads_sl) Tryz.underlying48 Tryz.sizeOf98 rfl rfl (⟨by omega, by omega⟩)) rfl rfl rfl ?_
        refine oj_step (y_ldW (reads_sl) Tryz.isAgg98 Tryz.sizeOf98 rfl (hx) (fun _ => rfl)) rfl rfl rfl ?_
        refine oj_alloc Tryz.zeroValue98 rfl rfl (fun b11 => ?_)
        refine oj_step (y_assign rfl) rfl rfl rfl ?_
        refine oj_store rfl rfl rfl rfl Tryz.sizeOf98 rfl ?_
        refine oj_nil ?_
        refine ej_th (cj_seq ?_)
        refine cj_draw (by kernel_rfl) (by kernel_rfl) ?_
        refine gj_step (y_move rfl) rfl rfl rfl (gj_step (y_move rfl) rfl rfl rfl (gj_step (y_ixR (reads_sl) Tryz.underlying49 Tryz.sizeOf3 rfl rfl (⟨by omega, by omega⟩)) rfl rfl rfl (gj_step (y_ld0 (reads_sl) Tryz.isAgg3 rfl (hy) rfl) rfl rfl rfl (gj_step (y_geq rfl rfl) rfl rfl rfl (gj_step (y_move rfl) rfl rfl rfl (?_))))))
        refine gj_g 5 37 42 rfl rfl rfl rfl (fun hg37 => gj_yes rfl rfl rfl (y_move rfl) rfl rfl (gj_yes rfl rfl rfl (y_move rfl) rfl rfl (gj_yes rfl rfl rfl (y_ixR (reads_sl) Tryz.underlying49 Tryz.sizeOf3 rfl rfl (⟨by omega, by omega⟩)) rfl rfl (gj_yes rfl rfl rfl (y_ld0 (reads_sl) Tryz.isAgg3 rfl (hz) rfl) rfl rfl (gj_yes rfl rfl rfl (y_geq rfl rfl) rfl rfl (gj_nil rfl)))))) ?_
        refine gj_step (y_and rfl rfl rfl) rfl rfl rfl (gj_step (y_move rfl) rfl rfl rfl (?_))
        refine gj_g 17 44 61 rfl rfl rfl rfl (fun hg44 => gj_yes rfl rfl rfl (y_move rfl) rfl rfl (gj_yes rfl rfl rfl (y_move rfl) rfl rfl (gj_yes rfl rfl rfl (y_ixR (reads_sl) Tryz.underlying49 Tryz.sizeOf3 rfl rfl (⟨by omega, by omega⟩)) rfl rfl (gj_yes rfl rfl rfl (y_ld0 (reads_sl) Tryz.isAgg3 rfl (hz) rfl) rfl rfl (gj_yes rfl rfl rfl (y_move rfl) rfl rfl (gj_yes rfl rfl rfl (y_move rfl) rfl rfl (gj_yes rfl rfl rfl (y_ixR (reads_sl) Tryz.underlying49 Tryz.sizeOf3 rfl rfl (⟨by omega, by omega⟩)) rfl rfl (gj_yes rfl rfl rfl (y_ld0 (reads_sl) Tryz.isAgg3 rfl (hy) rfl) rfl rfl (gj_yes rfl rfl rfl (y_sub rfl rfl (by omega)) rfl rfl (gj_yes rfl rfl rfl (y_fa0 fa98_0 rfl) rfl rfl (gj_yes rfl rfl rfl (y_load1 Tryz.isAgg3 rfl rfl) rfl rfl (gj_yes rfl rfl rfl (y_mul rfl rfl (by omega)) rfl rfl (gj_yes rfl rfl rfl (y_fa0 fa98_0 rfl) rfl rfl (gj_yes rfl rfl rfl (y_load1 Tryz.isAgg3 rfl rfl) rfl rfl (gj_yes rfl rfl rfl (y_mul rfl rfl (by omega)) rfl rfl (gj_yes rfl rfl rfl (y_call Tryz.call45 rfl (fun w hp => k_within1 _ _ _ w)) rfl rfl (gj_yes rfl rfl rfl (y_not rfl) rfl rfl (gj_nil rfl)))))))))))))))))) ?_
        refine gj_step (y_and rfl rfl rfl) rfl rfl rfl (?_)
        refine gj_nil ?_
        refine ej_th ?_
        refine cj_cond rfl (fun h62 => ?_) (fun h62 => ?_)
        · have h62b := h62
          try simp only [sxb] at h62
          refine cj_seq ?_
          refine cj_regionG (gj_step (y_assign rfl) rfl rfl rfl (gj_step (y_assign rfl) rfl rfl rfl (gj_nil ?_)))
          refine ej_th (cj_ret (ej_blk_ret (ej_then_ret (ej_then_ret (ej_blk_ret (ej_then_ret ?_))))))
          obtain ⟨e1, e2⟩ := agr_yes hmo hro
          rw [← hsk, show disag m p q = true from h62b] at e2
          exact ej_ret2 rfl Tryz.results21 rfl rfl (fun w' hp => ⟨by rw [e2, e1 ]; rfl, hp.below⟩)
        · have h62b := h62
          try simp only [sxb] at h62
          refine cj_skip (ej_blk (ej_th ?_))
          refine cj_regionG (gj_step (y_add rfl rfl (by omega)) rfl rfl rfl (gj_step (y_move rfl) rfl rfl rfl (gj_nil ?_)))
          exact ej_nx (k + 1) (by omega) ⟨by omega, by rw [← hsk, show disag m p q = false from h62b]; rfl⟩ ⟨rfl, rfl, rfl, rfl, rfl, trivial⟩
      · have h28b := h28
        try simp only [sxb] at h28
        refine cj_exit (ej_then_exit (ej_then_exit (ej_blk_hit (ej_th (cj_seq ?_)))))
        refine cj_regionG (gj_step (y_assign rfl) rfl rfl rfl (gj_step (y_assign rfl) rfl rfl rfl (gj_nil ?_)))
        refine ej_th (cj_ret ?_)
        obtain ⟨e1, e2⟩ := agr_yes hmo hro
        rw [← hsk, List.drop_of_length_le (show ms.length ≤ k by omega)] at e2
        exact ej_ret2 rfl Tryz.results21 rfl rfl (fun w' hp => ⟨by rw [e2, e1 ]; rfl, hp.below⟩)

end Go.Proofs.YtlfbghkcfmcnlaaGreatDoor
namespace Go.Proofs.YtlfbghkcfmcnlaaGreatDoor
open Go.Sx Go.RowKit
set_option maxRecDepth 20000

end Go.Proofs.YtlfbghkcfmcnlaaGreatDoor
namespace Go.Proofs.YtlfbghkcfmcnlaaGreatDoor
open Go.Sx Go.RowKit
set_option maxRecDepth 20000
theorem k_nanI (n : Int) (w : World)  : Calls Tryz.prog 97 #[.int .i64 n] w (fun e w' => e = .returned (.bool false) ∧ Grow w w') := by
  refine enter_pure (args := [.int .i64 n]) [] Tryz.func97 rfl (by rw [Tryz.ntmps97]; simp) (by simp) ?_
  refine cj_seq ?_
  refine cj_regionG (gj_step (y_assign rfl) rfl rfl rfl (gj_nil ?_))
  refine ej_th (cj_seq ?_)
  refine cj_regionG (gj_step (y_move rfl) rfl rfl rfl (gj_step (y_move rfl) rfl rfl rfl (gj_step (y_neq rfl rfl) rfl rfl rfl (gj_step (y_assign rfl) rfl rfl rfl (gj_nil ?_)))))
  refine ej_th (cj_ret ?_)
  refine ej_ret1 rfl Tryz.results97 rfl (fun w' hp => ⟨?_, hp.below⟩)
  simp

theorem k_CmpI (a b : Int) (w : World)  : Calls Tryz.prog 81 #[.int .i64 a, .int .i64 b] w (fun e w' => e = .returned (.int .i64 (cmpI a b)) ∧ Grow w w') := by
  refine enter_pure (args := [.int .i64 a, .int .i64 b]) [] Tryz.func81 rfl (by rw [Tryz.ntmps81]; simp) (by simp) ?_
  refine cj_seq ?_
  refine cj_regionG (gj_step (y_assign rfl) rfl rfl rfl (gj_nil ?_))
  refine ej_th (cj_seq ?_)
  refine cj_regionG ?_
  refine gj_step (y_move rfl) rfl rfl rfl (?_)
  refine gj_step (y_call Tryz.call97 rfl (fun w hp => k_nanI _ w)) rfl rfl rfl ?_
  refine gj_step (y_assign rfl) rfl rfl rfl (?_)
  refine gj_nil ?_
  refine ej_th (cj_seq ?_)
  refine cj_regionG ?_
  refine gj_step (y_move rfl) rfl rfl rfl (?_)
  refine gj_step (y_call Tryz.call97 rfl (fun w hp => k_nanI _ w)) rfl rfl rfl ?_
  refine gj_step (y_assign rfl) rfl rfl rfl (?_)
  refine gj_nil ?_
  refine ej_th (cj_seq (cj_seq ?_))
  refine cj_regionG (gj_step (y_move rfl) rfl rfl rfl (gj_nil ?_))
  refine ej_th ?_
  refine cj_cond rfl (fun h11 => ?_) (fun h11 => ?_)
  · cases h11
  · have h11b := h11
    try simp only [sxb] at h11
    refine cj_skip (ej_th (cj_seq (cj_seq ?_)))
    refine cj_regionG (gj_step (y_move rfl) rfl rfl rfl (gj_nil ?_))
    refine ej_th ?_
    refine cj_cond rfl (fun h13 => ?_) (fun h13 => ?_)
    · have h13b := h13
      try simp only [sxb] at h13
      refine cj_seq ?_
      refine cj_regionG (gj_step (y_assign rfl) rfl rfl rfl (gj_nil ?_))
      refine ej_th (cj_ret (ej_then_ret ?_))
      cases h13
    · have h13b := h13
      try simp only [sxb] at h13
      refine cj_skip (ej_th (cj_seq (cj_seq ?_)))
      refine cj_regionG (gj_step (y_move rfl) rfl rfl rfl (gj_step (y_move rfl) rfl rfl rfl (gj_step (y_lss rfl rfl) rfl rfl rfl (gj_nil ?_))))
      refine ej_th ?_
      refine cj_cond rfl (fun h16 => ?_) (fun h16 => ?_)
      · have h16b := h16
        try simp only [sxb] at h16
        refine cj_seq ?_
        refine cj_regionG (gj_step (y_assign rfl) rfl rfl rfl (gj_nil ?_))
        refine ej_th (cj_ret (ej_then_ret ?_))
        refine ej_ret1 rfl Tryz.results81 rfl (fun w' hp => ⟨?_, hp.below⟩)
        rw [cmpI, if_pos h16]
      · have h16b := h16
        try simp only [sxb] at h16
        refine cj_skip (ej_th (cj_seq (cj_seq ?_)))
        refine cj_regionG (gj_step (y_move rfl) rfl rfl rfl (gj_step (y_move rfl) rfl rfl rfl (gj_step (y_gtr rfl rfl) rfl rfl rfl (gj_nil ?_))))
        refine ej_th ?_
        refine cj_cond rfl (fun h19 => ?_) (fun h19 => ?_)
        · have h19b := h19
          try simp only [sxb] at h19
          refine cj_seq ?_
          refine cj_regionG (gj_step (y_assign rfl) rfl rfl rfl (gj_nil ?_))
          refine ej_th (cj_ret (ej_then_ret ?_))
          refine ej_ret1 rfl Tryz.results81 rfl (fun w' hp => ⟨?_, hp.below⟩)
          rw [cmpI, if_neg (by omega), if_pos h19]
        · have h19b := h19
          try simp only [sxb] at h19
          refine cj_skip (ej_th (cj_seq ?_))
          refine cj_regionG (gj_step (y_assign rfl) rfl rfl rfl (gj_nil ?_))
          refine ej_th (cj_ret ?_)
          refine ej_ret1 rfl Tryz.results81 rfl (fun w' hp => ⟨?_, hp.below⟩)
          rw [cmpI, if_neg (by omega), if_neg (by omega)]

theorem k_Compare (x y : List Int) (Ax Ay : Option Addr) (cx cy : Nat) (w : World) (hx0 : Rd w 1 enInt Ax x) (hy0 : Rd w 1 enInt Ay y) : Calls Tryz.prog 51 #[.slice Ax x.length cx, .slice Ay y.length cy] w (fun e w' => e = .returned (.int .i64 (cmpL x y)) ∧ Grow w w') := by
  have hlx := hx0.len
  have hly := hy0.len
  refine enter_pure (args := [.slice Ax x.length cx, .slice Ay y.length cy]) [sl (fun b => b < w.heap.size) 1 enInt Ax x, sl (fun b => b < w.heap.size) 1 enInt Ay y] Tryz.func51 rfl (by rw [Tryz.ntmps51]; simp) (fun g hg => by simp at hg; rcases hg with rfl | rfl; exact ⟨hx0, fun _ h => h⟩; exact ⟨hy0, fun _ h => h⟩) ?_
  refine cj_seq ?_
  refine cj_regionG (gj_step (y_assign rfl) rfl rfl rfl (gj_nil ?_))
  refine ej_th (cj_seq (cj_seq ?_))
  refine cj_regionG (gj_step (y_move rfl) rfl rfl rfl (gj_step (y_lenA Tryz.underlying49 rfl) rfl rfl rfl (gj_step (y_move rfl) rfl rfl rfl (gj_nil ?_))))
  refine ej_th (cj_block ?_)
  refine cj_lpic (X := Nat) [(0, _), (1, _), (9, _), (10, _)] (fun k => k ≤ x.length ∧ k ≤ y.length ∧ cmpL (x.drop k) (y.drop k) = cmpL x y) (fun k => [(11, .int .i64 k)]) (fun k => x.length - k) 0 (⟨Nat.zero_le _, Nat.zero_le _, rfl⟩) ⟨rfl, rfl, rfl, rfl, rfl, trivial⟩ ?_
  rintro k ⟨hk, hk2, hsk⟩
  dsimp only [List.cons_append, List.nil_append]
  refine cj_seq ?_
  refine cj_regionG (gj_step (y_lss rfl rfl) rfl rfl rfl (gj_nil ?_))
  refine ej_th (cj_seq ?_)
  refine cj_cond rfl (fun h12 => ?_) (fun h12 => ?_)
  · have h12b := h12
    try simp only [sxb] at h12
    obtain ⟨p, hx⟩ : ∃ p, x[k]? = some p := ⟨_, List.getElem?_eq_getElem (by omega)⟩
    refine cj_skip (ej_th (cj_seq (cj_block (cj_seq ?_))))
    refine cj_regionG (gj_step (y_move rfl) rfl rfl rfl (gj_step (y_ixR (reads_sl) Tryz.underlying49 Tryz.sizeOf3 rfl rfl (⟨by omega, by omega⟩)) rfl rfl rfl (gj_step (y_ld0 (reads_sl) Tryz.isAgg3 rfl (hx) rfl) rfl rfl rfl (gj_step (y_assign rfl) rfl rfl rfl (gj_step (y_assign rfl) rfl rfl rfl (gj_nil ?_))))))
    refine ej_th (cj_seq (cj_seq ?_))
    refine cj_regionG (gj_step (y_move rfl) rfl rfl rfl (gj_step (y_move rfl) rfl rfl rfl (gj_step (y_lenA Tryz.underlying49 rfl) rfl rfl rfl (gj_step (y_geq rfl rfl) rfl rfl rfl (gj_nil ?_)))))
    refine ej_th ?_
    refine cj_cond rfl (fun h19 => ?_) (fun h19 => ?_)
    · have h19b := h19
      try simp only [sxb] at h19
      refine cj_seq ?_
      refine cj_regionG (gj_step (y_assign rfl) rfl rfl rfl (gj_nil ?_))
      refine ej_th (cj_ret (ej_then_ret (ej_blk_ret (ej_then_ret (ej_then_ret (ej_blk_ret (ej_then_ret ?_)))))))
      refine ej_ret1 rfl Tryz.results51 rfl (fun w' hp => ⟨?_, hp.below⟩)
      rw [← hsk, cmpL_end x y k p hx (by omega)]
    · have h19b := h19
      try simp only [sxb] at h19
      obtain ⟨q, hy⟩ : ∃ q, y[k]? = some q := ⟨_, List.getElem?_eq_getElem (by omega)⟩
      rw [cmpL_drop x y k p q hx hy] at hsk
      refine cj_skip (ej_th (cj_seq ?_))
      refine cj_regionG (gj_step (y_move rfl) rfl rfl rfl (gj_step (y_move rfl) rfl rfl rfl (gj_step (y_ixR (reads_sl) Tryz.underlying49 Tryz.sizeOf3 rfl rfl (⟨by omega, by omega⟩)) rfl rfl rfl (gj_step (y_ld0 (reads_sl) Tryz.isAgg3 rfl (hy) rfl) rfl rfl rfl (gj_step (y_assign rfl) rfl rfl rfl (gj_nil ?_))))))
      refine ej_th (cj_seq ?_)
      refine cj_regionG ?_
      refine gj_step (y_move rfl) rfl rfl rfl (gj_step (y_move rfl) rfl rfl rfl (?_))
      refine gj_step (y_call Tryz.call81 rfl (fun w hp => k_CmpI _ _ w)) rfl rfl rfl ?_
      refine gj_step (y_assign rfl) rfl rfl rfl (?_)
      refine gj_nil ?_
      refine ej_th (cj_seq ?_)
      refine cj_regionG (gj_step (y_move rfl) rfl rfl rfl (gj_step (y_neq rfl rfl) rfl rfl rfl (gj_nil ?_)))
      refine ej_th ?_
      refine cj_cond rfl (fun h28 => ?_) (fun h28 => ?_)
      · have h28b := h28
        try simp only [sxb] at h28
        refine cj_seq ?_
        refine cj_regionG (gj_step (y_move rfl) rfl rfl rfl (gj_step (y_assign rfl) rfl rfl rfl (gj_nil ?_)))
        refine ej_th (cj_ret (ej_blk_ret (ej_then_ret (ej_then_ret (ej_blk_ret (ej_then_ret ?_))))))
        refine ej_ret1 rfl Tryz.results51 rfl (fun w' hp => ⟨?_, hp.below⟩)
        rw [← hsk, if_neg (by simpa using h28b)]
      · have h28b := h28
        try simp only [sxb] at h28
        refine cj_skip (ej_blk (ej_th ?_))
        refine cj_regionG (gj_step (y_add rfl rfl (by omega)) rfl rfl rfl (gj_step (y_move rfl) rfl rfl rfl (gj_nil ?_)))
        exact ej_nx (k + 1) (by omega) ⟨by omega, by omega, by rw [← hsk, if_pos (by simpa using h28b)]⟩ ⟨rfl, rfl, rfl, rfl, rfl, trivial⟩
  · have h12b := h12
    try simp only [sxb] at h12
    refine cj_exit (ej_then_exit (ej_then_exit (ej_blk_hit (ej_th (cj_seq (cj_seq ?_))))))
    refine cj_regionG (gj_step (y_move rfl) rfl rfl rfl (gj_step (y_lenA Tryz.underlying49 rfl) rfl rfl rfl (gj_step (y_move rfl) rfl rfl rfl (gj_step (y_lenA Tryz.underlying49 rfl) rfl rfl rfl (gj_step (y_lss rfl rfl) rfl rfl rfl (gj_nil ?_))))))
    refine ej_th ?_
    refine cj_cond rfl (fun h35 => ?_) (fun h35 => ?_)
    · have h35b := h35
      try simp only [sxb] at h35
      refine cj_seq ?_
      refine cj_regionG (gj_step (y_assign rfl) rfl rfl rfl (gj_nil ?_))
      refine ej_th (cj_ret (ej_then_ret ?_))
      refine ej_ret1 rfl Tryz.results51 rfl (fun w' hp => ⟨?_, hp.below⟩)
      rw [← hsk, cmpL_end2 x y k (by omega), if_pos (by omega)]
    · have h35b := h35
      try simp only [sxb] at h35
      refine cj_skip (ej_th (cj_seq ?_))
      refine cj_regionG (gj_step (y_assign rfl) rfl rfl rfl (gj_nil ?_))
      refine ej_th (cj_ret ?_)
      refine ej_ret1 rfl Tryz.results51 rfl (fun w' hp => ⟨?_, hp.below⟩)
      rw [← hsk, cmpL_end2 x y k (by omega), if_neg (by omega)]

theorem k_lab (i : Int) (ms : List Meas) (A : Option Addr) (c : Nat) (b : Nat) (w : World) (hi : 0 ≤ i ∧ i < ms.length) (hm : Rd w 2 encMe A ms) (hb : (ownB b (cellsB 48 [.slice A ms.length c])).P w) : Calls Tryz.prog 50 #[.int .i64 i, .pointer (some ⟨b, 0, none⟩)] w (fun e w' => e = .returned (.int .i64 (labAt ms i)) ∧ Grow w w') := by
  refine enter_pure (args := [.int .i64 i, .pointer (some ⟨b, 0, none⟩)]) [sl (fun b => b < w.heap.size) 2 encMe A ms, ownB b (cellsB 48 [.slice A ms.length c])] Tryz.func50 rfl (by rw [Tryz.ntmps50]; simp) (fun g hg => by simp at hg; rcases hg with rfl | rfl; exact ⟨hm, fun _ h => h⟩; exact ⟨hb, fun i hi => by have : i = b := hi; subst this; exact (Array.getElem?_eq_some_iff.1 hb).1⟩) ?_
  refine cj_seq ?_
  refine cj_regionG (gj_step (y_assign rfl) rfl rfl rfl (gj_nil ?_))
  refine ej_th (cj_seq ?_)
  refine cj_regionG (gj_step (y_loadS1 Tryz.isAgg48 rfl rfl) rfl rfl rfl (gj_step (y_move rfl) rfl rfl rfl (gj_step (y_ixR (reads_sl) Tryz.underlying48 Tryz.sizeOf98 rfl rfl (⟨by omega, by omega⟩)) rfl rfl rfl (gj_step (y_faE fa98_1 rfl) rfl rfl rfl (gj_step (y_ld1 (reads_sl) Tryz.isAgg3 rfl (geq default (by omega)) rfl) rfl rfl rfl (gj_step (y_assign rfl) rfl rfl rfl (gj_nil ?_)))))))
  refine ej_th (cj_ret ?_)
  exact ej_ret1 rfl Tryz.results50 rfl (fun w' hp => ⟨rfl, hp.below⟩)

theorem k_totalL (l : List Int) (Al : Option Addr) (cl : Nat) (ms : List Meas) (A : Option Addr) (c : Nat) (b : Nat) (w : World) (hl : Rd w 1 enInt Al l) (hm : Rd w 2 encMe A ms) (hb : (ownB b (cellsB 48 [.slice A ms.length c])).P w) (hmb : ∀ m ∈ ms, (0 ≤ m.tol ∧ m.tol ≤ 1000) ∧ (1 ≤ m.lab ∧ m.lab ≤ 1000)) (hr : ∀ i ∈ l, 0 ≤ i ∧ i < ms.length) (hT : (l.map (labAt ms)).sum ≤ 1000000) : Calls Tryz.prog 49 #[.slice Al l.length cl, .func (.func 50) #[] #[.pointer (some ⟨b, 0, none⟩)]] w (fun e w' => e = .returned (.int .i64 (labN ms l)) ∧ Grow w w') := by
  have hlen := hl.len
  skip
  refine enter_pure (args := [.slice Al l.length cl, .func (.func 50) #[] #[.pointer (some ⟨b, 0, none⟩)]]) [sl (fun b => b < w.heap.size) 1 enInt Al l, sl (fun b => b < w.heap.size) 2 encMe A ms, ownB b (cellsB 48 [.slice A ms.length c])] Tryz.func49 rfl (by rw [Tryz.ntmps49]; simp) (fun g hg => by simp at hg; rcases hg with rfl | rfl | rfl; exact ⟨hl, fun _ h => h⟩; exact ⟨hm, fun _ h => h⟩; exact ⟨hb, fun i hi => by have : i = b := hi; subst this; exact (Array.getElem?_eq_some_iff.1 hb).1⟩) ?_
  refine cj_seq ?_
  refine cj_regionG (gj_step (y_assign rfl) rfl rfl rfl (gj_nil ?_))
  refine ej_th (cj_seq ?_)
  refine cj_regionG (gj_step (y_assign rfl) rfl rfl rfl (gj_nil ?_))
  refine ej_th (cj_seq (cj_seq ?_))
  refine cj_regionG (gj_step (y_move rfl) rfl rfl rfl (gj_step (y_lenA Tryz.underlying49 rfl) rfl rfl rfl (gj_step (y_move rfl) rfl rfl rfl (gj_nil ?_))))
  refine ej_th (cj_block ?_)
  refine cj_lpic (X := Nat × Int) [(1, _), (4, _), (8, _), (9, _)] (fun ⟨k, n⟩ => k ≤ l.length ∧ 0 ≤ n ∧ n + ((l.drop k).map (labAt ms)).sum = (l.map (labAt ms)).sum) (fun ⟨k, n⟩ => [(5, .int .i64 n), (10, .int .i64 k)]) (fun ⟨k, n⟩ => l.length - k) (0, 0) (⟨Nat.zero_le _, Int.le_refl _, by simp⟩) ⟨rfl, rfl, rfl, rfl, rfl, rfl, trivial⟩ ?_
  rintro ⟨k, n⟩ ⟨hk, hn, hsk⟩
  dsimp only [List.cons_append, List.nil_append]
  refine cj_seq ?_
  refine cj_regionG (gj_step (y_lss rfl rfl) rfl rfl rfl (gj_nil ?_))
  refine ej_th (cj_seq ?_)
  refine cj_cond rfl (fun h11 => ?_) (fun h11 => ?_)
  · have h11b := h11
    try simp only [sxb] at h11
    obtain ⟨x, hx⟩ : ∃ x, l[k]? = some x := ⟨_, List.getElem?_eq_getElem (by omega)⟩
    rw [map_sum_drop (labAt ms) l k x hx] at hsk
    have hrest := sum_nn (labAt ms) (l.drop (k + 1)) (fun y hy => by have := labAt_bd hmb (hr y (List.mem_of_mem_drop hy)); omega)
    refine cj_skip (ej_th (cj_seq (cj_block (cj_seq ?_))))
    refine cj_regionG (gj_step (y_ixR (reads_sl) Tryz.underlying49 Tryz.sizeOf3 rfl rfl (⟨by omega, by omega⟩)) rfl rfl rfl (gj_step (y_ld0 (reads_sl) Tryz.isAgg3 rfl (hx) rfl) rfl rfl rfl (gj_step (y_assign rfl) rfl rfl rfl (gj_nil ?_))))
    refine ej_th ?_
    refine cj_regionG ?_
    refine gj_step (y_move rfl) rfl rfl rfl (gj_step (y_move rfl) rfl rfl rfl (gj_step (y_move rfl) rfl rfl rfl (?_)))
    refine gj_step (y_callV Tryz.call50 rfl rfl (fun w hp => k_lab x ms A c b w (hr x (List.mem_of_getElem? hx)) hp.rd hp.bs)) rfl rfl rfl ?_
    refine gj_step (y_add rfl rfl (by have := labAt_bd hmb (hr x (List.mem_of_getElem? hx)); omega)) rfl rfl rfl (gj_step (y_assign rfl) rfl rfl rfl (?_))
    refine gj_nil ?_
    refine ej_blk (ej_th ?_)
    refine cj_regionG (gj_step (y_add rfl rfl (by omega)) rfl rfl rfl (gj_step (y_move rfl) rfl rfl rfl (gj_nil ?_)))
    exact ej_nx (k + 1, n + (labAt ms) x) (by simp only; omega) ⟨by first | omega | (simp only; omega), by have := labAt_bd hmb (hr x (List.mem_of_getElem? hx)); simp only; omega, by simp only; omega⟩ ⟨rfl, rfl, rfl, rfl, rfl, rfl, trivial⟩
  · have h11b := h11
    try simp only [sxb] at h11
    refine cj_exit (ej_then_exit (ej_then_exit (ej_blk_hit (ej_th (cj_seq ?_)))))
    refine cj_regionG (gj_step (y_move rfl) rfl rfl rfl (gj_step (y_assign rfl) rfl rfl rfl (gj_nil ?_)))
    refine ej_th (cj_ret ?_)
    refine ej_ret1 rfl Tryz.results49 rfl (fun w' hp => ⟨?_, hp.below⟩)
    rw [List.drop_of_length_le (show l.length ≤ k by omega)] at hsk
    have hn2 : n = (l.map (labAt ms)).sum := by simpa using hsk
    rw [hn2]; rfl

theorem k_totalI (l : List Int) (Al : Option Addr) (cl : Nat)  (w : World) (hl : Rd w 1 enInt Al l) (hp0 : l.all prc1 = true) (hT : (l.map (fun x => x)).sum ≤ 1000000) : Calls Tryz.prog 49 #[.slice Al l.length cl, .func (.func 55) #[] #[]] w (fun e w' => e = .returned (.int .i64 l.sum) ∧ Grow w w') := by
  have hlen := hl.len
  skip
  refine enter_pure (args := [.slice Al l.length cl, .func (.func 55) #[] #[]]) [sl (fun b => b < w.heap.size) 1 enInt Al l] Tryz.func49 rfl (by rw [Tryz.ntmps49]; simp) (fun g hg => by simp at hg; subst hg; exact ⟨hl, fun _ h => h⟩) ?_
  refine cj_seq ?_
  refine cj_regionG (gj_step (y_assign rfl) rfl rfl rfl (gj_nil ?_))
  refine ej_th (cj_seq ?_)
  refine cj_regionG (gj_step (y_assign rfl) rfl rfl rfl (gj_nil ?_))
  refine ej_th (cj_seq (cj_seq ?_))
  refine cj_regionG (gj_step (y_move rfl) rfl rfl rfl (gj_step (y_lenA Tryz.underlying49 rfl) rfl rfl rfl (gj_step (y_move rfl) rfl rfl rfl (gj_nil ?_))))
  refine ej_th (cj_block ?_)
  refine cj_lpic (X := Nat × Int) [(1, _), (4, _), (8, _), (9, _)] (fun ⟨k, n⟩ => k ≤ l.length ∧ 0 ≤ n ∧ n + ((l.drop k).map (fun x => x)).sum = (l.map (fun x => x)).sum) (fun ⟨k, n⟩ => [(5, .int .i64 n), (10, .int .i64 k)]) (fun ⟨k, n⟩ => l.length - k) (0, 0) (⟨Nat.zero_le _, Int.le_refl _, by simp⟩) ⟨rfl, rfl, rfl, rfl, rfl, rfl, trivial⟩ ?_
  rintro ⟨k, n⟩ ⟨hk, hn, hsk⟩
  dsimp only [List.cons_append, List.nil_append]
  refine cj_seq ?_
  refine cj_regionG (gj_step (y_lss rfl rfl) rfl rfl rfl (gj_nil ?_))
  refine ej_th (cj_seq ?_)
  refine cj_cond rfl (fun h11 => ?_) (fun h11 => ?_)
  · have h11b := h11
    try simp only [sxb] at h11
    obtain ⟨x, hx⟩ : ∃ x, l[k]? = some x := ⟨_, List.getElem?_eq_getElem (by omega)⟩
    rw [map_sum_drop (fun x => x) l k x hx] at hsk
    have hrest := sum_nn (fun x => x) (l.drop (k + 1)) (fun y hy => by have := prc_bd hp0 y (List.mem_of_mem_drop hy); omega)
    refine cj_skip (ej_th (cj_seq (cj_block (cj_seq ?_))))
    refine cj_regionG (gj_step (y_ixR (reads_sl) Tryz.underlying49 Tryz.sizeOf3 rfl rfl (⟨by omega, by omega⟩)) rfl rfl rfl (gj_step (y_ld0 (reads_sl) Tryz.isAgg3 rfl (hx) rfl) rfl rfl rfl (gj_step (y_assign rfl) rfl rfl rfl (gj_nil ?_))))
    refine ej_th ?_
    refine cj_regionG ?_
    refine gj_step (y_move rfl) rfl rfl rfl (gj_step (y_move rfl) rfl rfl rfl (gj_step (y_move rfl) rfl rfl rfl (?_)))
    refine gj_step (y_callV Tryz.call55 rfl rfl (fun w hp => k_id x w)) rfl rfl rfl ?_
    refine gj_step (y_add rfl rfl (by have := prc_bd hp0 x (List.mem_of_getElem? hx); omega)) rfl rfl rfl (gj_step (y_assign rfl) rfl rfl rfl (?_))
    refine gj_nil ?_
    refine ej_blk (ej_th ?_)
    refine cj_regionG (gj_step (y_add rfl rfl (by omega)) rfl rfl rfl (gj_step (y_move rfl) rfl rfl rfl (gj_nil ?_)))
    exact ej_nx (k + 1, n + (fun x => x) x) (by simp only; omega) ⟨by first | omega | (simp only; omega), by have := prc_bd hp0 x (List.mem_of_getElem? hx); simp only; omega, by simp only; omega⟩ ⟨rfl, rfl, rfl, rfl, rfl, rfl, trivial⟩
  · have h11b := h11
    try simp only [sxb] at h11
    refine cj_exit (ej_then_exit (ej_then_exit (ej_blk_hit (ej_th (cj_seq ?_)))))
    refine cj_regionG (gj_step (y_move rfl) rfl rfl rfl (gj_step (y_assign rfl) rfl rfl rfl (gj_nil ?_)))
    refine ej_th (cj_ret ?_)
    refine ej_ret1 rfl Tryz.results49 rfl (fun w' hp => ⟨?_, hp.below⟩)
    rw [List.drop_of_length_le (show l.length ≤ k by omega)] at hsk
    have hn2 : n = (l.map (fun x => x)).sum := by simpa using hsk
    rw [hn2]; simp

end Go.Proofs.YtlfbghkcfmcnlaaGreatDoor
namespace Go.Proofs.YtlfbghkcfmcnlaaGreatDoor
open Go.Sx Go.RowKit
set_option maxRecDepth 20000

end Go.Proofs.YtlfbghkcfmcnlaaGreatDoor
namespace Go.Proofs.YtlfbghkcfmcnlaaGreatDoor
open Go.Sx Go.RowKit
set_option maxRecDepth 20000
set_option maxHeartbeats 1000000 in
theorem k_Least (ms : List Meas) (A : Option Addr) (c : Nat) (tk : List Int) (At : Option Addr) (ct : Nat) (fs : List FakeV) (Af : Option Addr) (cf : Nat) (w : World) (hm : Rd w 2 encMe A ms) (ht : Rd w 1 enInt At tk) (hf : Rd w 1 encFk Af fs) (hgf : ∀ f ∈ fs, GoodK w f) : Calls Tryz.prog 24 #[.slice A ms.length c, .slice At tk.length ct, .slice Af fs.length cf] w (fun e w' => ∃ A c, e = .returned (.tuple #[.slice A (LstS ms tk fs).length c, .int .i64 (LstN ms tk fs), .int .i64 (LstE ms tk fs)]) ∧ Grow w w' ∧ Res w w' 1 enInt A (LstS ms tk fs)) := by
  have hlm := hm.len
  refine enter_pure (args := [.slice A ms.length c, .slice At tk.length ct, .slice Af fs.length cf]) [sl (fun b => b < w.heap.size) 2 encMe A ms, sl (fun b => b < w.heap.size) 1 enInt At tk, sl (fun b => b < w.heap.size) 1 encFk Af fs] Tryz.func24 rfl (by rw [Tryz.ntmps24]; simp) (fun g hg => by simp at hg; rcases hg with rfl | rfl | rfl; exact ⟨hm, fun _ h => h⟩; exact ⟨ht, fun _ h => h⟩; exact ⟨hf, fun _ h => h⟩) ?_
  refine cj_seq (cj_region ?_)
  refine oj_box rfl rfl rfl (fun b3 => ?_)
  refine oj_step (y_assign rfl) rfl rfl rfl ?_
  refine oj_step (y_assign rfl) rfl rfl rfl ?_
  refine oj_step (y_assign rfl) rfl rfl rfl ?_
  refine oj_nil ?_
  refine ej_th (cj_seq (cj_seq ?_))
  refine cj_regionG ?_
  refine gj_step (y_load1 Tryz.isAgg48 rfl rfl) rfl rfl rfl (gj_step (y_move rfl) rfl rfl rfl (gj_step (y_move rfl) rfl rfl rfl (?_)))
  refine gj_step (y_call Tryz.call46 rfl (fun w hp => k_skill ms A c tk At ct fs Af cf w hp.rd hp.rd hp.rd (fun f h => (hgf f h).mono hp.below))) rfl rfl rfl ?_
  refine gj_step (y_assign rfl) rfl rfl rfl (?_)
  refine gj_nil ?_
  refine ej_th (cj_seq ?_)
  refine cj_regionG (gj_step (y_move rfl) rfl rfl rfl (gj_step (y_neq rfl rfl) rfl rfl rfl (gj_nil ?_)))
  refine ej_th ?_
  refine cj_cond rfl (fun h19 => ?_) (fun h19 => ?_)
  · have h19b := h19
    try simp only [sxb] at h19
    have hno := skill_no h19b
    refine cj_seq ?_
    refine cj_regionG (gj_step (y_move rfl) rfl rfl rfl (gj_step (y_assign rfl) rfl rfl rfl (gj_step (y_assign rfl) rfl rfl rfl (gj_step (y_assign rfl) rfl rfl rfl (gj_nil ?_)))))
    refine ej_th (cj_ret (ej_then_ret ?_))
    obtain ⟨e1, e2, e3⟩ := lst_no1 hno
    exact ej_ret3 rfl Tryz.results24 rfl rfl rfl (fun w' hp => ⟨none, 0, by rw [e1, e2, e3]; rfl, hp.below, by rw [e2]; exact Res.nil⟩)
  · have h19b := h19
    try simp only [sxb] at h19
    obtain ⟨hmo, hto, hfo, hz⟩ := skill_0 h19b
    obtain ⟨hml, hmb⟩ := meas_bd hmo
    have htb := rdOk_bd hto
    obtain ⟨hfl, hfb⟩ := fakes_bd hfo
    have hlb : ∀ m ∈ ms, 1 ≤ m.lab ∧ m.lab ≤ 1000 := fun m h => (hmb m h).2
    have hpw : 2 ^ ms.length ≤ 2 ^ 8 := Nat.pow_le_pow_right (by decide) hml.2
    refine cj_skip (ej_th (cj_seq ?_))
    refine cj_regionG (gj_step (y_assign rfl) rfl rfl rfl (gj_nil ?_))
    refine ej_th (cj_seq (cj_seq ?_))
    refine cj_regionG (gj_step (y_load1 Tryz.isAgg48 rfl rfl) rfl rfl rfl (gj_step (y_lenA Tryz.underlying48 rfl) rfl rfl rfl (gj_step (y_shl1 rfl rfl (by omega)) rfl rfl rfl (gj_step (y_move rfl) rfl rfl rfl (gj_nil ?_)))))
    refine ej_th (cj_block ?_)
    refine cj_ownNil 3 1 enInt ?_
    refine cj_lpi (X := Nat × Option Addr × Nat × List Int × Int) [(1, _), (2, _), (3, _), (8, _), (23, _)] (fun ⟨n, A6, c6, set, lab⟩ => n ≤ 2 ^ ms.length ∧ (set, lab) = bestN ms tk fs n) (fun ⟨n, A6, c6, set, lab⟩ => [(6, .slice A6 set.length c6), (7, .int .i64 lab), (24, .int .i64 n)]) (fun ⟨n, A6, c6, set, lab⟩ => [ow 3 1 enInt A6 c6 set, ownB b3 (cellsB 48 [.slice A ms.length c])]) (fun ⟨n, A6, c6, set, lab⟩ => [sl (fun b => b < w.heap.size) 2 encMe A ms, sl (fun b => b < w.heap.size) 1 enInt At tk, sl (fun b => b < w.heap.size) 1 encFk Af fs]) (fun ⟨n, A6, c6, set, lab⟩ => 2 ^ ms.length - n) (0, none, 0, [], -1) (⟨Nat.zero_le _, rfl⟩) ⟨rfl, rfl, rfl, rfl, rfl, rfl, rfl, rfl, trivial⟩ ?_
    rintro ⟨n, A6, c6, set, lab⟩ ⟨hn, hst⟩
    dsimp only [List.cons_append, List.nil_append]
    refine cj_seq ?_
    refine cj_regionG (gj_step (y_lss rfl rfl) rfl rfl rfl (gj_nil ?_))
    refine ej_th (cj_seq ?_)
    refine cj_cond rfl (fun h25 => ?_) (fun h25 => ?_)
    · have h25b := h25
      try simp only [sxb] at h25
      have hbd := bestN_bd ms tk fs hlb n
      rw [← hst] at hbd
      simp only at hbd
      refine cj_skip (ej_th (cj_seq (cj_block (cj_seq ?_))))
      refine cj_regionG (gj_step (y_move rfl) rfl rfl rfl (gj_step (y_assign rfl) rfl rfl rfl (gj_nil ?_)))
      refine ej_th (cj_seq ?_)
      refine cj_regionG (gj_step (y_assign rfl) rfl rfl rfl (gj_nil ?_))
      refine ej_th (cj_seq (cj_seq ?_))
      refine cj_regionG (gj_step (y_load1 Tryz.isAgg48 rfl rfl) rfl rfl rfl (gj_step (y_lenA Tryz.underlying48 rfl) rfl rfl rfl (gj_step (y_move rfl) rfl rfl rfl (gj_nil ?_))))
      refine ej_th (cj_block ?_)
      refine cj_ownNil 3 1 enInt ?_
      refine cj_lpi (X := Nat × Option Addr × Nat × List Int) [(6, _), (7, _), (24, _), (1, _), (2, _), (3, _), (8, _), (23, _), (10, _), (28, _)] (fun ⟨k, A1, c1, own⟩ => k ≤ ms.length ∧ own.length ≤ k ∧ own ++ selF n (ms.length - k) k = (selF n ms.length 0)) (fun ⟨k, A1, c1, own⟩ => [(11, .slice A1 own.length c1), (29, .int .i64 k)]) (fun ⟨k, A1, c1, own⟩ => [ow 3 1 enInt A1 c1 own, ow 3 1 enInt A6 c6 set, ownB b3 (cellsB 48 [.slice A ms.length c])]) (fun ⟨k, A1, c1, own⟩ => [sl (fun b => b < w.heap.size) 2 encMe A ms, sl (fun b => b < w.heap.size) 1 enInt At tk, sl (fun b => b < w.heap.size) 1 encFk Af fs]) (fun ⟨k, A1, c1, own⟩ => ms.length - k) (0, none, 0, []) (⟨Nat.zero_le _, Nat.zero_le _, rfl⟩) ⟨rfl, rfl, rfl, rfl, rfl, rfl, rfl, rfl, rfl, rfl, rfl, rfl, trivial⟩ ?_
      rintro ⟨k, A1, c1, own⟩ ⟨hk, hol, hso⟩
      dsimp only [List.cons_append, List.nil_append]
      refine cj_seq ?_
      refine cj_regionG (gj_step (y_lss rfl rfl) rfl rfl rfl (gj_nil ?_))
      refine ej_th (cj_seq ?_)
      refine cj_cond rfl (fun h30 => ?_) (fun h30 => ?_)
      · have h30b := h30
        try simp only [sxb] at h30
        rw [selF_step n ms.length k (by omega)] at hso
        refine cj_skip (ej_th (cj_seq (cj_block (cj_seq ?_))))
        refine cj_regionG (gj_step (y_move rfl) rfl rfl rfl (gj_step (y_assign rfl) rfl rfl rfl (gj_nil ?_)))
        refine ej_th (cj_seq ?_)
        refine cj_regionG (gj_step (y_move rfl) rfl rfl rfl (gj_step (y_move rfl) rfl rfl rfl (gj_step (y_shr rfl rfl (by omega)) rfl rfl rfl (gj_step (y_and1 rfl rfl (by have := Nat.div_le_self n (2 ^ k); omega)) rfl rfl rfl (gj_step (y_eql rfl rfl) rfl rfl rfl (gj_nil ?_))))))
        refine ej_th ?_
        refine cj_cond rfl (fun h36 => ?_) (fun h36 => ?_)
        · have h36b := h36
          try simp only [sxb] at h36
          rw [if_pos (by omega)] at hso
          refine cj_region ?_
          refine oj_step (y_move rfl) rfl rfl rfl ?_
          refine oj_step (y_move rfl) rfl rfl rfl ?_
          refine oj_buildSlice [.int .i64 0] Tryz.underlying49 Tryz.sizeOf3 Tryz.zeroValue3 rfl rfl (by kernel_rfl) rfl rfl (fun b39 => ?_)
          refine oj_append  el49 (fun _ => rfl) enInt_one rfl rfl rfl (reads_lit [(k : Int)] (fun _ => rfl) rfl) (by simp [maxLen]; omega) (by simp; omega) rfl (fun A40 c40 => ?_)
          refine oj_step (y_assign rfl) rfl rfl rfl ?_
          refine oj_nil ?_
          refine ej_blk (ej_th ?_)
          refine cj_regionG (gj_step (y_add rfl rfl (by omega)) rfl rfl rfl (gj_step (y_move rfl) rfl rfl rfl (gj_nil ?_)))
          exact ej_nx (k + 1, A40, c40, own ++ [(k : Int)]) (by simp only; omega) ⟨by first | omega | (simp only; omega), by simp only [List.length_append, List.length_cons, List.length_nil]; omega, by rw [List.append_assoc]; exact hso⟩ ⟨rfl, rfl, rfl, rfl, rfl, rfl, rfl, rfl, rfl, rfl, rfl, rfl, trivial⟩
        · have h36b := h36
          try simp only [sxb] at h36
          rw [if_neg (by omega)] at hso
          refine cj_skip (ej_blk (ej_th ?_))
          refine cj_regionG (gj_step (y_add rfl rfl (by omega)) rfl rfl rfl (gj_step (y_move rfl) rfl rfl rfl (gj_nil ?_)))
          exact ej_nx (k + 1, A1, c1, own) (by simp only; omega) ⟨by first | omega | (simp only; omega), by simp only; omega, hso⟩ ⟨rfl, rfl, rfl, rfl, rfl, rfl, rfl, rfl, rfl, rfl, rfl, rfl, trivial⟩
      · have h30b := h30
        try simp only [sxb] at h30
        have hxo : own = (selF n ms.length 0) := by rw [← hso, show ms.length - k = 0 by omega, selF, List.append_nil]
        have hor : ∀ i ∈ own, 0 ≤ i ∧ i < (ms.length : Int) := fun i hi => by
          rw [hxo] at hi
          have := selF_rng n ms.length 0 i hi
          omega
        have hlN := labN_bd ms hlb own hor
        have hoT : (own.map (labAt ms)).sum ≤ 1000000 := by
          have h9 : (own.map (labAt ms)).sum = labN ms own := rfl
          omega
        have hbs := bestN_succ ms tk fs n
        rw [← hst, stepL, ← hxo] at hbs
        refine cj_exit (ej_then_exit (ej_then_exit (ej_blk_hit (ej_th (cj_seq ?_)))))
        refine cj_regionG ?_
        refine gj_step (y_move rfl) rfl rfl rfl (gj_step (y_makeFunc rfl rfl) rfl rfl rfl (?_))
        refine gj_step (y_call Tryz.call49 rfl (fun w hp => k_totalL own A1 c1 ms A c b3 w (hp.rdO (fun _ => rfl) (by unfold maxLen; omega)) hp.rd hp.bo hmb hor hoT)) rfl rfl rfl ?_
        refine gj_step (y_assign rfl) rfl rfl rfl (?_)
        refine gj_nil ?_
        refine ej_th (cj_seq (cj_seq ?_))
        refine cj_regionG ?_
        refine gj_step (y_load1 Tryz.isAgg48 rfl rfl) rfl rfl rfl (gj_step (y_move rfl) rfl rfl rfl (gj_step (y_move rfl) rfl rfl rfl (gj_step (y_move rfl) rfl rfl rfl (?_))))
        refine gj_step (y_call Tryz.call48 rfl (fun w hp => k_shows ms A c tk At ct fs Af cf own A1 c1 w hp.rd hp.rd hp.rd (fun f h => (hgf f h).mono hp.below) (hp.rdO (fun _ => rfl) (by unfold maxLen; omega)) hml.2 hmb htb (fun f h => (hfb f h).1))) rfl rfl rfl ?_
        refine gj_step (y_not rfl) rfl rfl rfl (?_)
        refine gj_nil ?_
        refine ej_th ?_
        refine cj_cond rfl (fun h50 => ?_) (fun h50 => ?_)
        · have h50b := h50
          try simp only [sxb] at h50
          rw [if_neg (by rw [not_t h50b]; simp)] at hbs
          refine cj_exit (ej_then_exit (ej_blk_hit (ej_th ?_)))
          refine cj_regionG (gj_step (y_add rfl rfl (by omega)) rfl rfl rfl (gj_step (y_move rfl) rfl rfl rfl (gj_nil ?_)))
          exact ej_nx (n + 1, A6, c6, set, lab) (by simp only; omega) ⟨by first | omega | (simp only; omega), hbs.symm⟩ ⟨rfl, rfl, rfl, rfl, rfl, rfl, rfl, rfl, trivial⟩
        · have h50b := h50
          try simp only [sxb] at h50
          rw [if_pos (not_f h50b)] at hbs
          refine cj_skip (ej_th (cj_seq ?_))
          refine cj_regionG ?_
          refine gj_step (y_move rfl) rfl rfl rfl (gj_step (y_lss rfl rfl) rfl rfl rfl (gj_step (y_move rfl) rfl rfl rfl (?_)))
          refine gj_g 3 53 56 rfl rfl rfl rfl (fun hg53 => gj_yes rfl rfl rfl (y_move rfl) rfl rfl (gj_yes rfl rfl rfl (y_move rfl) rfl rfl (gj_yes rfl rfl rfl (y_lss rfl rfl) rfl rfl (gj_nil rfl)))) ?_
          refine gj_step (y_or rfl rfl rfl) rfl rfl rfl (gj_step (y_move rfl) rfl rfl rfl (?_))
          refine gj_g 9 58 67 rfl rfl rfl rfl (fun hg58 => gj_yes rfl rfl rfl (y_move rfl) rfl rfl (gj_yes rfl rfl rfl (y_move rfl) rfl rfl (gj_yes rfl rfl rfl (y_eql rfl rfl) rfl rfl (gj_yes rfl rfl rfl (y_move rfl) rfl rfl (gj_g 4 62 66 rfl rfl rfl rfl (fun hg62 => gj_yes rfl rfl rfl (y_move rfl) rfl rfl (gj_yes rfl rfl rfl (y_move rfl) rfl rfl (gj_yes rfl rfl rfl (y_call Tryz.call51 rfl (fun w hp => k_Compare own set A1 A6 c1 c6 w (hp.rdO (fun _ => rfl) (by unfold maxLen; omega)) (hp.rdO (fun _ => rfl) (by unfold maxLen; omega)))) rfl rfl (gj_yes rfl rfl rfl (y_lss rfl rfl) rfl rfl (gj_nil rfl))))) (gj_yes rfl rfl rfl (y_and rfl rfl rfl) rfl rfl (gj_nil rfl))))))) ?_
          refine gj_step (y_or rfl rfl rfl) rfl rfl rfl (?_)
          refine gj_nil ?_
          refine ej_th ?_
          refine cj_cond rfl (fun h68 => ?_) (fun h68 => ?_)
          · have h68b := h68
            try simp only [sxb] at h68
            have hc : lab < 0 ∨ labN ms own < lab ∨ (labN ms own = lab ∧ cmpL own set < 0) := by simpa [or_assoc] using h68b
            rw [if_pos hc] at hbs
            refine cj_regionG (gj_step (y_move rfl) rfl rfl rfl (gj_step (y_move rfl) rfl rfl rfl (gj_step (y_assign rfl) rfl rfl rfl (gj_step (y_assign rfl) rfl rfl rfl (gj_nil ?_)))))
            refine ej_blk (ej_th ?_)
            refine cj_regionG (gj_step (y_add rfl rfl (by omega)) rfl rfl rfl (gj_step (y_move rfl) rfl rfl rfl (gj_nil ?_)))
            exact ej_nx (n + 1, A1, c1, own, labN ms own) (by simp only; omega) ⟨by first | omega | (simp only; omega), hbs.symm⟩ ⟨rfl, rfl, rfl, rfl, rfl, rfl, rfl, rfl, trivial⟩
          · have h68b := h68
            try simp only [sxb] at h68
            have hc : ¬ (lab < 0 ∨ labN ms own < lab ∨ (labN ms own = lab ∧ cmpL own set < 0)) := by
              intro hc
              have : ((decide (lab < 0) || decide (labN ms own < lab)) || ((labN ms own == lab) && decide (cmpL own set < 0))) = true := by simpa [or_assoc] using hc
              rw [this] at h68b; cases h68b
            rw [if_neg hc] at hbs
            refine cj_skip (ej_blk (ej_th ?_))
            refine cj_regionG (gj_step (y_add rfl rfl (by omega)) rfl rfl rfl (gj_step (y_move rfl) rfl rfl rfl (gj_nil ?_)))
            exact ej_nx (n + 1, A6, c6, set, lab) (by simp only; omega) ⟨by first | omega | (simp only; omega), hbs.symm⟩ ⟨rfl, rfl, rfl, rfl, rfl, rfl, rfl, rfl, trivial⟩
    · have h25b := h25
      try simp only [sxb] at h25
      have hb : (set, lab) = best ms tk fs := by rw [best, hst, show n = 2 ^ ms.length by omega]
      have hbd := bestN_bd ms tk fs hlb n
      rw [← hst] at hbd
      simp only at hbd
      refine cj_exit (ej_then_exit (ej_then_exit (ej_blk_hit (ej_th (cj_seq (cj_seq ?_))))))
      refine cj_regionG (gj_step (y_move rfl) rfl rfl rfl (gj_step (y_lss rfl rfl) rfl rfl rfl (gj_nil ?_)))
      refine ej_th ?_
      refine cj_cond rfl (fun h73 => ?_) (fun h73 => ?_)
      · have h73b := h73
        try simp only [sxb] at h73
        have hlt : (best ms tk fs).2 < 0 := by rw [← hb]; exact h73
        refine cj_seq ?_
        refine cj_regionG (gj_step (y_assign rfl) rfl rfl rfl (gj_step (y_assign rfl) rfl rfl rfl (gj_step (y_assign rfl) rfl rfl rfl (gj_nil ?_))))
        refine ej_th (cj_ret (ej_then_ret ?_))
        obtain ⟨e1, e2, e3⟩ := lst_no2 hz hlt
        exact ej_ret3 rfl Tryz.results24 rfl rfl rfl (fun w' hp => ⟨none, 0, by rw [e1, e2, e3]; rfl, hp.below, by rw [e2]; exact Res.nil⟩)
      · have h73b := h73
        try simp only [sxb] at h73
        have hlt : ¬ (best ms tk fs).2 < 0 := by rw [← hb]; simp only; omega
        refine cj_skip (ej_th (cj_seq ?_))
        refine cj_regionG (gj_step (y_move rfl) rfl rfl rfl (gj_step (y_move rfl) rfl rfl rfl (gj_step (y_assign rfl) rfl rfl rfl (gj_step (y_assign rfl) rfl rfl rfl (gj_step (y_assign rfl) rfl rfl rfl (gj_nil ?_))))))
        refine ej_th (cj_ret ?_)
        obtain ⟨e1, e2, e3⟩ := lst_yes hz hlt
        rw [← hb] at e2 e3
        simp only at e2 e3
        exact ej_ret3 rfl Tryz.results24 rfl rfl rfl (fun w' hp => ⟨A6, c6, by rw [e1, e2, e3], hp.below, by rw [e2]; exact hp.res (fun _ => rfl) (by unfold maxLen; omega)⟩)

theorem k_Bound (ms : List Meas) (A : Option Addr) (c : Nat) (tk : List Int) (At : Option Addr) (ct : Nat) (fs : List FakeV) (Af : Option Addr) (cf : Nat) (ps : List Int) (Ap : Option Addr) (cp : Nat) (w : World) (hm : Rd w 2 encMe A ms) (ht : Rd w 1 enInt At tk) (hf : Rd w 1 encFk Af fs) (hgf : ∀ f ∈ fs, GoodK w f) (hps : Rd w 1 enInt Ap ps) : Calls Tryz.prog 25 #[.slice A ms.length c, .slice At tk.length ct, .slice Af fs.length cf, .slice Ap ps.length cp] w (fun e w' => e = .returned (.tuple #[.int .i64 (BndN ms tk fs ps), .int .i64 (BndE ms tk fs ps)]) ∧ Grow w w') := by
  have hlm := hm.len
  have hlp := hps.len
  have hlf := hf.len
  refine enter_pure (args := [.slice A ms.length c, .slice At tk.length ct, .slice Af fs.length cf, .slice Ap ps.length cp]) [sl (fun b => b < w.heap.size) 2 encMe A ms, sl (fun b => b < w.heap.size) 1 enInt At tk, sl (fun b => b < w.heap.size) 1 encFk Af fs, sl (fun b => b < w.heap.size) 1 enInt Ap ps] Tryz.func25 rfl (by rw [Tryz.ntmps25]; simp) (fun g hg => by simp at hg; rcases hg with rfl | rfl | rfl | rfl; exact ⟨hm, fun _ h => h⟩; exact ⟨ht, fun _ h => h⟩; exact ⟨hf, fun _ h => h⟩; exact ⟨hps, fun _ h => h⟩) ?_
  refine cj_seq ?_
  refine cj_regionG (gj_step (y_assign rfl) rfl rfl rfl (gj_step (y_assign rfl) rfl rfl rfl (gj_nil ?_)))
  refine ej_th (cj_seq (cj_seq ?_))
  refine cj_regionG ?_
  refine gj_step (y_move rfl) rfl rfl rfl (gj_step (y_move rfl) rfl rfl rfl (gj_step (y_move rfl) rfl rfl rfl (?_)))
  refine gj_step (y_call Tryz.call46 rfl (fun w hp => k_skill ms A c tk At ct fs Af cf w hp.rd hp.rd hp.rd (fun f h => (hgf f h).mono hp.below))) rfl rfl rfl ?_
  refine gj_step (y_assign rfl) rfl rfl rfl (?_)
  refine gj_nil ?_
  refine ej_th (cj_seq ?_)
  refine cj_regionG (gj_step (y_move rfl) rfl rfl rfl (gj_step (y_neq rfl rfl) rfl rfl rfl (gj_nil ?_)))
  refine ej_th ?_
  refine cj_cond rfl (fun h21 => ?_) (fun h21 => ?_)
  · have h21b := h21
    try simp only [sxb] at h21
    have hno := skill_no h21b
    refine cj_seq ?_
    refine cj_regionG (gj_step (y_move rfl) rfl rfl rfl (gj_step (y_assign rfl) rfl rfl rfl (gj_step (y_assign rfl) rfl rfl rfl (gj_nil ?_))))
    refine ej_th (cj_ret (ej_then_ret ?_))
    obtain ⟨e1, e2⟩ := bnd_no1 (ps := ps) hno
    exact ej_ret2 rfl Tryz.results25 rfl rfl (fun w' hp => ⟨by rw [e1, e2], hp.below⟩)
  · have h21b := h21
    try simp only [sxb] at h21
    obtain ⟨hmo, hto, hfo, hz⟩ := skill_0 h21b
    obtain ⟨hml, hmb⟩ := meas_bd hmo
    have htb := rdOk_bd hto
    obtain ⟨hfl, hfb⟩ := fakes_bd hfo
    refine cj_skip (ej_th (cj_seq (cj_seq ?_)))
    refine cj_regionG ?_
    refine gj_step (y_move rfl) rfl rfl rfl (gj_step (y_lenA Tryz.underlying49 rfl) rfl rfl rfl (gj_step (y_move rfl) rfl rfl rfl (gj_step (y_lenA Tryz.underlying50 rfl) rfl rfl rfl (gj_step (y_neq rfl rfl) rfl rfl rfl (gj_step (y_move rfl) rfl rfl rfl (?_))))))
    refine gj_g 2 28 30 rfl rfl rfl rfl (fun hg28 => gj_yes rfl rfl rfl (y_move rfl) rfl rfl (gj_yes rfl rfl rfl (y_call Tryz.call52 rfl (fun w hp => k_ContainsFP ps Ap cp w hp.rd)) rfl rfl (gj_nil rfl))) ?_
    refine gj_step (y_or rfl rfl rfl) rfl rfl rfl (?_)
    refine gj_nil ?_
    refine ej_th ?_
    refine cj_cond rfl (fun h31 => ?_) (fun h31 => ?_)
    · have h31b := h31
      try simp only [sxb] at h31
      have hpo : prOk fs ps = false := by unfold prOk; exact not_t ((rd_V _ _ _).symm.trans h31b)
      refine cj_seq ?_
      refine cj_regionG (gj_step (y_assign rfl) rfl rfl rfl (gj_step (y_assign rfl) rfl rfl rfl (gj_nil ?_)))
      refine ej_th (cj_ret (ej_then_ret ?_))
      obtain ⟨e1, e2⟩ := bnd_no2 (ps := ps) hz (by rw [hpo]; rfl)
      exact ej_ret2 rfl Tryz.results25 rfl rfl (fun w' hp => ⟨by rw [e1, e2], hp.below⟩)
    · have h31b := h31
      try simp only [sxb] at h31
      have hpo : prOk fs ps = true := by unfold prOk; exact not_f ((rd_V _ _ _).symm.trans h31b)
      have hpp := Bool.and_eq_true_iff.1 hpo
      have hpl : ps.length = fs.length := by have := hpp.1; simp only [beq_iff_eq] at this; omega
      have hpa := hpp.2
      have hpb := prc_bd hpa
      refine cj_skip (ej_th (cj_seq (cj_seq ?_)))
      refine cj_regionG (gj_step (y_move rfl) rfl rfl rfl (gj_step (y_lenA Tryz.underlying48 rfl) rfl rfl rfl (gj_step (y_move rfl) rfl rfl rfl (gj_nil ?_))))
      refine ej_th (cj_block ?_)
      refine cj_lpic (X := Nat) [(1, _), (2, _), (3, _), (32, _), (33, _)] (fun k => k ≤ ms.length ∧ bndA tk fs ps (ms.drop k) k = bndA tk fs ps ms 0) (fun k => [(34, .int .i64 k)]) (fun k => ms.length - k) 0 (⟨Nat.zero_le _, rfl⟩) ⟨rfl, rfl, rfl, rfl, rfl, rfl, trivial⟩ ?_
      rintro k ⟨hk, hsk⟩
      dsimp only [List.cons_append, List.nil_append]
      refine cj_seq ?_
      refine cj_regionG (gj_step (y_lss rfl rfl) rfl rfl rfl (gj_nil ?_))
      refine ej_th (cj_seq ?_)
      refine cj_cond rfl (fun h35 => ?_) (fun h35 => ?_)
      · have h35b := h35
        try simp only [sxb] at h35
        obtain ⟨m, hx⟩ : ∃ m, ms[k]? = some m := ⟨_, List.getElem?_eq_getElem (by omega)⟩
        obtain ⟨r, hr⟩ : ∃ r, tk[k]? = some r := ⟨_, List.getElem?_eq_getElem (by omega)⟩
        have htg : tk.getD k 0 = r := by rw [List.getD_eq_getElem?_getD, hr]; rfl
        rw [bndA_drop tk fs ps ms k m hx, htg] at hsk
        have hBb := bndF_bd m r k fs ps hpb
        refine cj_skip (ej_th (cj_seq (cj_block (cj_seq (cj_region ?_)))))
        refine oj_step (y_move rfl) rfl rfl rfl ?_
        refine oj_step (y_ixR (reads_sl) Tryz.underlying48 Tryz.sizeOf98 rfl rfl (⟨by omega, by omega⟩)) rfl rfl rfl ?_
        refine oj_step (y_ldW (reads_sl) Tryz.isAgg98 Tryz.sizeOf98 rfl (hx) (fun _ => rfl)) rfl rfl rfl ?_
        refine oj_alloc Tryz.zeroValue98 rfl rfl (fun b12 => ?_)
        refine oj_step (y_assign rfl) rfl rfl rfl ?_
        refine oj_store rfl rfl rfl rfl Tryz.sizeOf98 rfl ?_
        refine oj_nil ?_
        refine ej_th (cj_seq ?_)
        refine cj_regionG (gj_step (y_assign rfl) rfl rfl rfl (gj_nil ?_))
        refine ej_th (cj_seq (cj_seq ?_))
        refine cj_regionG (gj_step (y_move rfl) rfl rfl rfl (gj_step (y_lenA Tryz.underlying50 rfl) rfl rfl rfl (gj_step (y_move rfl) rfl rfl rfl (gj_nil ?_))))
        refine ej_th (cj_block ?_)
        refine cj_lpic (X := Nat × Int) [(34, _), (1, _), (2, _), (3, _), (32, _), (33, _), (12, _), (11, _), (39, _), (40, _)] (fun ⟨j, n⟩ => j ≤ fs.length ∧ 0 ≤ n ∧ n + bndF m r k (fs.drop j) (ps.drop j) = bndF m r k fs ps) (fun ⟨j, n⟩ => [(13, .int .i64 n), (41, .int .i64 j)]) (fun ⟨j, n⟩ => fs.length - j) (0, 0) (⟨Nat.zero_le _, Int.le_refl _, by simp⟩) ⟨rfl, rfl, rfl, rfl, rfl, rfl, rfl, rfl, rfl, rfl, rfl, rfl, trivial⟩ ?_
        rintro ⟨j, n⟩ ⟨hj, hn0, hsj⟩
        dsimp only [List.cons_append, List.nil_append]
        refine cj_seq ?_
        refine cj_regionG (gj_step (y_lss rfl rfl) rfl rfl rfl (gj_nil ?_))
        refine ej_th (cj_seq ?_)
        refine cj_cond rfl (fun h42 => ?_) (fun h42 => ?_)
        · have h42b := h42
          try simp only [sxb] at h42
          obtain ⟨f, hy⟩ : ∃ f, fs[j]? = some f := ⟨_, List.getElem?_eq_getElem (by omega)⟩
          obtain ⟨p, hpj⟩ : ∃ p, ps[j]? = some p := ⟨_, List.getElem?_eq_getElem (by omega)⟩
          have hfl2 := (hfb f (List.mem_of_getElem? hy)).1
          obtain ⟨s, hs⟩ : ∃ s, f.has[k]? = some s := ⟨_, List.getElem?_eq_getElem (by omega)⟩
          have hsd : f.has.getD k default = s := by rw [List.getD_eq_getElem?_getD, hs]; rfl
          rw [bndF_drop m r k fs ps j f p hy hpj, hsd] at hsj
          have hpb1 := hpb p (List.mem_of_getElem? hpj)
          have hrest := (bndF_bd m r k (fs.drop (j + 1)) (ps.drop (j + 1)) (fun q hq => hpb q (List.mem_of_mem_drop hq))).1
          have hgr := hgf f (List.mem_of_getElem? hy)
          have hl2 := hgr.len
          refine cj_rd hgr (fun _ h => h) ?_
          refine cj_skip (ej_th (cj_seq (cj_block (cj_seq (cj_region ?_)))))
          refine oj_step (y_move rfl) rfl rfl rfl ?_
          refine oj_step (y_ixR (reads_sl) Tryz.underlying50 Tryz.sizeOf63 rfl rfl (⟨by omega, by omega⟩)) rfl rfl rfl ?_
          refine oj_step (y_ldW (reads_sl) Tryz.isAgg63 Tryz.sizeOf63 rfl (hy) (fun _ => rfl)) rfl rfl rfl ?_
          refine oj_alloc Tryz.zeroValue63 rfl rfl (fun b15 => ?_)
          refine oj_step (y_assign rfl) rfl rfl rfl ?_
          refine oj_store rfl rfl rfl rfl Tryz.sizeOf63 rfl ?_
          refine oj_nil ?_
          refine ej_th (cj_seq ?_)
          refine cj_draw (by kernel_rfl) (by kernel_rfl) ?_
          refine gj_step (y_loadN Tryz.isAgg98 Tryz.sizeOf98 rfl) rfl rfl rfl (gj_step (y_move rfl) rfl rfl rfl (gj_step (y_move rfl) rfl rfl rfl (gj_step (y_ixR (reads_sl) Tryz.underlying49 Tryz.sizeOf3 rfl rfl (⟨by omega, by omega⟩)) rfl rfl rfl (gj_step (y_ld0 (reads_sl) Tryz.isAgg3 rfl (hr) rfl) rfl rfl rfl (gj_step (y_fa0 fa63_0 rfl) rfl rfl rfl (gj_step (y_load1 Tryz.isAgg54 rfl rfl) rfl rfl rfl (gj_step (y_move rfl) rfl rfl rfl (gj_step (y_ixR (reads_sl) Tryz.underlying54 Tryz.sizeOf70 rfl rfl (⟨by omega, by omega⟩)) rfl rfl rfl (gj_step (y_ldW (reads_sl) Tryz.isAgg70 Tryz.sizeOf70 rfl (hs) (fun _ => rfl)) rfl rfl rfl (?_))))))))))
          refine gj_step (y_call Tryz.call54 rfl (fun w hp => k_finds m r s w ⟨htb.2 r (List.mem_of_getElem? hr), (hmb m (List.mem_of_getElem? hx)).1⟩)) rfl rfl rfl ?_
          refine gj_nil ?_
          refine ej_th ?_
          refine cj_cond rfl (fun h56 => ?_) (fun h56 => ?_)
          · have h56b := h56
            try simp only [sxb] at h56
            rw [if_pos h56b] at hsj
            refine cj_regionG (gj_step (y_move rfl) rfl rfl rfl (gj_step (y_move rfl) rfl rfl rfl (gj_step (y_move rfl) rfl rfl rfl (gj_step (y_ixR (reads_sl) Tryz.underlying49 Tryz.sizeOf3 rfl rfl (⟨by omega, by omega⟩)) rfl rfl rfl (gj_step (y_ld0 (reads_sl) Tryz.isAgg3 rfl (hpj) rfl) rfl rfl rfl (gj_step (y_add rfl rfl (by omega)) rfl rfl rfl (gj_step (y_assign rfl) rfl rfl rfl (gj_nil ?_))))))))
            refine ej_blk (ej_th ?_)
            refine cj_regionG (gj_step (y_add rfl rfl (by omega)) rfl rfl rfl (gj_step (y_move rfl) rfl rfl rfl (gj_nil ?_)))
            exact ej_nx (j + 1, n + p) (by simp only; omega) ⟨by first | omega | (simp only; omega), by simp only; omega, by simp only; omega⟩ ⟨rfl, rfl, rfl, rfl, rfl, rfl, rfl, rfl, rfl, rfl, rfl, rfl, trivial⟩
          · have h56b := h56
            try simp only [sxb] at h56
            rw [if_neg (by simp [h56b])] at hsj
            refine cj_skip (ej_blk (ej_th ?_))
            refine cj_regionG (gj_step (y_add rfl rfl (by omega)) rfl rfl rfl (gj_step (y_move rfl) rfl rfl rfl (gj_nil ?_)))
            exact ej_nx (j + 1, n) (by simp only; omega) ⟨by first | omega | (simp only; omega), hn0, by simp only; omega⟩ ⟨rfl, rfl, rfl, rfl, rfl, rfl, rfl, rfl, rfl, rfl, rfl, rfl, trivial⟩
        · have h42b := h42
          try simp only [sxb] at h42
          rw [List.drop_of_length_le (show fs.length ≤ j by omega)] at hsj
          have hne : n = bndF m r k fs ps := by rw [← hsj]; simp [bndF]
          refine cj_exit (ej_then_exit (ej_then_exit (ej_blk_hit (ej_th (cj_seq ?_)))))
          refine cj_regionG (gj_step (y_move rfl) rfl rfl rfl (gj_step (y_fa fa98_1 rfl) rfl rfl rfl (gj_step (y_load1 Tryz.isAgg3 rfl rfl) rfl rfl rfl (gj_step (y_gtr rfl rfl) rfl rfl rfl (gj_nil ?_)))))
          refine ej_th ?_
          refine cj_cond rfl (fun h67 => ?_) (fun h67 => ?_)
          · have h67b := h67
            try simp only [sxb] at h67
            have hA : bndA tk fs ps ms 0 = false := by rw [← hsk, decide_eq_false (by omega)]; rfl
            refine cj_seq ?_
            refine cj_regionG (gj_step (y_assign rfl) rfl rfl rfl (gj_step (y_assign rfl) rfl rfl rfl (gj_nil ?_)))
            refine ej_th (cj_ret (ej_blk_ret (ej_then_ret (ej_then_ret (ej_blk_ret (ej_then_ret ?_))))))
            obtain ⟨e1, e2⟩ := bnd_no2 (ps := ps) hz (by rw [hpo, hA]; rfl)
            exact ej_ret2 rfl Tryz.results25 rfl rfl (fun w' hp => ⟨by rw [e1, e2], hp.below⟩)
          · have h67b := h67
            try simp only [sxb] at h67
            rw [decide_eq_true (show bndF m r k fs ps ≤ m.lab by omega), Bool.true_and] at hsk
            refine cj_skip (ej_blk (ej_th ?_))
            refine cj_regionG (gj_step (y_add rfl rfl (by omega)) rfl rfl rfl (gj_step (y_move rfl) rfl rfl rfl (gj_nil ?_)))
            exact ej_nx (k + 1) (by omega) ⟨by omega, by exact hsk⟩ ⟨rfl, rfl, rfl, rfl, rfl, rfl, trivial⟩
      · have h35b := h35
        try simp only [sxb] at h35
        rw [List.drop_of_length_le (show ms.length ≤ k by omega)] at hsk
        have hA : bndA tk fs ps ms 0 = true := by rw [← hsk]; rfl
        refine cj_exit (ej_then_exit (ej_then_exit (ej_blk_hit (ej_th (cj_seq ?_)))))
        refine cj_regionG ?_
        refine gj_step (y_move rfl) rfl rfl rfl (?_)
        refine gj_step (y_call Tryz.call49 rfl (fun w hp => k_totalI ps Ap cp w hp.rd hpa (by have := sumP_bd ps hpa; omega))) rfl rfl rfl ?_
        refine gj_step (y_assign rfl) rfl rfl rfl (gj_step (y_assign rfl) rfl rfl rfl (?_))
        refine gj_nil ?_
        refine ej_th (cj_ret ?_)
        obtain ⟨e1, e2⟩ := bnd_yes (ps := ps) hz (by rw [hpo, hA]; rfl)
        exact ej_ret2 rfl Tryz.results25 rfl rfl (fun w' hp => ⟨by rw [e1, e2], hp.below⟩)

end Go.Proofs.YtlfbghkcfmcnlaaGreatDoor
namespace Go.Proofs.YtlfbghkcfmcnlaaGreatDoor
open Go.Sx Go.RowKit
set_option maxRecDepth 20000
theorem ne70 (a0 b0 : Int) (a1 b1 : Int) (x y : Operand) (w : World) : (do eqGuard .neq 70 x y (.agg #[.int .i64 a0, .int .i64 a1]) (.agg #[.int .i64 b0, .int .i64 b1]); binOp .neq 70 (.agg #[.int .i64 a0, .int .i64 a1]) (.agg #[.int .i64 b0, .int .i64 b1]) : Sem Value).run Tryz.prog w = .ok (.bool (!((a0 == b0) && (a1 == b1)))) w := by
  simp [go_sem, Tryz.eqGuardType70, Tryz.stoodInHeld70, Tryz.underlying70, Tryz.underlying3]
  try ((repeat' split) <;> simp_all)
theorem st37 : StructIs Tryz.prog 37 [(0, 1), (1, 1), (2, 1), (3, 1)] [.string ⟨#[]⟩, .slice none 0 0, .slice none 0 0, .int .i64 0] := ⟨⟨_, Tryz.underlying37, fun w => by simp [Tryz.sizeOf23, Tryz.sizeOf3, Tryz.sizeOf35, Tryz.sizeOf9], Tryz.zeroValue37⟩⟩
theorem st39 : StructIs Tryz.prog 39 [(0, 1), (1, 1), (2, 1)] [.string ⟨#[]⟩, .slice none 0 0, .bool false] := ⟨⟨_, Tryz.underlying39, fun w => by simp [Tryz.sizeOf23, Tryz.sizeOf4, Tryz.sizeOf9], Tryz.zeroValue39⟩⟩
theorem st52 : StructIs Tryz.prog 52 [(0, 1), (1, 1), (2, 1)] [.slice none 0 0, .slice none 0 0, .slice none 0 0] := ⟨⟨_, Tryz.underlying52, fun w => by simp [Tryz.sizeOf48, Tryz.sizeOf49, Tryz.sizeOf50], Tryz.zeroValue52⟩⟩
theorem st63 : StructIs Tryz.prog 63 [(0, 1)] [.slice none 0 0] := ⟨⟨_, Tryz.underlying63, fun w => by simp [Tryz.sizeOf54], Tryz.zeroValue63⟩⟩
theorem st98 : StructIs Tryz.prog 98 [(0, 1), (1, 1)] [.int .i64 0, .int .i64 0] := ⟨⟨_, Tryz.underlying98, fun w => by simp [Tryz.sizeOf3], Tryz.zeroValue98⟩⟩
end Go.Proofs.YtlfbghkcfmcnlaaGreatDoor
