/- Texts of ours, joined: 8 of them. Conditions: none. -/
import Derived.Test.YtlfbghkcfmcnlaaGreatDoorZf
import Derived.Shelf.Strings.OnBuilder
import Derived.Test.YtlfbghkcfmcnlaaGreatDoorProg
namespace Go.Proofs.YtlfbghkcfmcnlaaGreatDoor
open Go.Sx Go.RowKit Go.Shelf Go.Proofs
def lays156_ren : Go.Shelf.Ren := ⟨fun | 156 => 83 | 165 => 98 | 166 => 99 | 169 => 100 | 240 => 107 | 241 => 108 | 276 => 115 | 277 => 116 | n => n, fun | 31 => 23 | 9 => 9 | 3 => 3 | 4 => 4 | 0 => 0 | 20 => 20 | 72 => 152 | 76 => 156 | 70 => 149 | 37 => 150 | 75 => 155 | 127 => 161 | 164 => 168 | 5 => 5 | 80 => 125 | n => n, fun n => n⟩
theorem lays156 : Go.Proofs.Lays.n156 Tryz.prog lays156_ren where
  mixed := by kernel_rfl
  f156 := Tryz.func83.trans (congrArg some (by kernel_rfl))
  f165 := Tryz.func98.trans (congrArg some (by kernel_rfl))
  f166 := Tryz.func99.trans (congrArg some (by kernel_rfl))
  f169 := Tryz.func100.trans (congrArg some (by kernel_rfl))
  f240 := Tryz.func107.trans (congrArg some (by kernel_rfl))
  f241 := Tryz.func108.trans (congrArg some (by kernel_rfl))
  f276 := Tryz.func115.trans (congrArg some (by kernel_rfl))
  f277 := Tryz.func116.trans (congrArg some (by kernel_rfl))
  t0 := Tryz.underlying0
  a0 := Tryz.isAgg0
  z0 := Tryz.sizeOf0
  v0 := Tryz.zeroValue0
  t3 := Tryz.underlying3
  a3 := Tryz.isAgg3
  z3 := Tryz.sizeOf3
  v3 := Tryz.zeroValue3
  t4 := Tryz.underlying4
  a4 := Tryz.isAgg4
  z4 := Tryz.sizeOf4
  v4 := Tryz.zeroValue4
  t9 := Tryz.underlying9
  a9 := Tryz.isAgg9
  z9 := Tryz.sizeOf9
  v9 := Tryz.zeroValue9
  t20 := Tryz.underlying20
  a20 := Tryz.isAgg20
  z20 := Tryz.sizeOf20
  v20 := Tryz.zeroValue20
  t31 := Tryz.underlying23
  a31 := Tryz.isAgg23
  z31 := Tryz.sizeOf23
  v31 := Tryz.zeroValue23
  t37 := Tryz.underlying150
  a37 := Tryz.isAgg150
  z37 := Tryz.sizeOf150
  v37 := Tryz.zeroValue150
  t70 := Tryz.underlying149
  a70 := Tryz.isAgg149
  z70 := Tryz.sizeOf149
  v70 := Tryz.zeroValue149
  t72 := Tryz.underlying152
  a72 := Tryz.isAgg152
  z72 := Tryz.sizeOf152
  v72 := Tryz.zeroValue152
  t75 := Tryz.underlying155
  a75 := Tryz.isAgg155
  z75 := Tryz.sizeOf155
  v75 := Tryz.zeroValue155
  t76 := Tryz.underlying156
  a76 := Tryz.isAgg156
  z76 := Tryz.sizeOf156
  v76 := Tryz.zeroValue156
  t127 := Tryz.underlying161
  a127 := Tryz.isAgg161
  z127 := Tryz.sizeOf161
  v127 := Tryz.zeroValue161
  t164 := Tryz.underlying168
  a164 := Tryz.isAgg168
  z164 := Tryz.sizeOf168
  v164 := Tryz.zeroValue168
theorem Builder_Extra_156 : Builder.Extra Tryz.prog lays156_ren := {
  sizeBuilder := by kernel_rfl
  liesBuilder := by kernel_rfl
  t5 := Tryz.underlying5
  a5 := Tryz.isAgg5
  z5 := Tryz.sizeOf5
  v5 := Tryz.zeroValue5
  infoByte := by kernel_rfl
  cellsByte := by kernel_rfl
  sizeByte := by kernel_rfl
  neB5 := by decide }

theorem join_ok (A : Option Addr) (c : Nat) (xs : List ByteArray) (w : World) (hO : (ow 9 1 enStr A c xs).P w) (hne : xs ≠ []) (hN : xs.length ≤ 1000000) (hlen : (jn xs).size ≤ 1000000) :
    Calls Tryz.prog 83 #[.slice A xs.length c, .string tBl] w (fun e w' => e = .returned (.string (jn xs)) ∧ Grow w w') := by
  obtain ⟨g, rfl, hc, hg⟩ := ow_shape hO hne
  obtain ⟨a, ha, hcell⟩ := ow_cells hO (fun _ => rfl) hne
  injection ha with ha
  subst ha
  have h := Any.strings_Join lays156 Builder_Extra_156 g 0 c xs tBl w (fun j x hx => ?_) hg (by omega) hc (by
    have : (jn xs).size = (Lib.join (xs.map (·.data.toList)) tBl.data.toList).length := by
      show Array.size _ = _
      simp [Lib.join]
    omega)
  · exact h.mono fun e w' ⟨h1, h2⟩ => ⟨h1, h2⟩
  · have := hcell j x 0 (.string x) hx rfl
    unfold Addr.add at this
    simp only [Nat.mul_one, Nat.add_zero] at this
    split at this
    · rename_i h0; rw [h0]; exact this
    · simpa using this
end Go.Proofs.YtlfbghkcfmcnlaaGreatDoor
namespace Go.Proofs.YtlfbghkcfmcnlaaGreatDoor
open Go.Sx Go.RowKit
set_option maxRecDepth 20000
set_option maxHeartbeats 1000000 in
theorem k_tok1 (x : ItemV) (b : Nat) (g : List (ByteArray × ClassV)) (w : World) (hM : (mp ekS evC b g).P w) (hbl : b < w.heap.size) (hgg : ∀ p ∈ g, GoodC w p.2) (hx : GoodI w x) (ho : OkT g x.pl) (hcn : cntT x.pl ≤ 24) (ih : ∀ p ∈ x.parts, ∀ (w1 : World), Grow w w1 → Calls Tryz.prog 57 #[.map (some b), evI p] w1 (fun e w' => ∃ A c, e = .returned (.slice A (tokT g p.pl).length c) ∧ Grow w1 w' ∧ (ow 9 1 enStr A c (tokT g p.pl)).P w' ∧ ∀ i, (ow 9 1 enStr A c (tokT g p.pl)).fp i → w1.heap.size ≤ i)) : Calls Tryz.prog 57 #[.map (some b), evI x] w (fun e w' => ∃ A c, e = .returned (.slice A (tokT g x.pl).length c) ∧ Grow w w' ∧ (ow 9 1 enStr A c (tokT g x.pl)).P w' ∧ ∀ i, (ow 9 1 enStr A c (tokT g x.pl)).fp i → w.heap.size ≤ i) := by
  have hl1 := hx.rs.len
  have hl2 := hx.rp.len
  obtain ⟨c, hgc, hsl, ht8, htn⟩ := ho.get
  rw [pl_cls] at hgc
  rw [pl_says] at hsl
  have hcl : (getL g x.cls).getD zC = c := by rw [hgc]; rfl
  have hGC : GoodC w c := by obtain ⟨p, hp, he⟩ := getL_mem hgc; rw [← he]; exact hgg p hp
  have hTl : (tokT g x.pl).length ≤ 264 := by have := tok_len x.pl ho; omega
  have hTe := tokT_eq g x.pl
  rw [pl_cls, pl_says, pl_parts, List.length_map, show traitsOf g x.cls = c.traits by unfold traitsOf; rw [hcl]] at hTe
  have hss : ∀ s ∈ x.says, s.size ≤ 16 := by have := ho.ssz; rw [pl_says] at this; exact this
  skip
  refine enter_pure (args := [.map (some b), evI x]) [mp ekS evC b g] Tryz.func57 rfl (by rw [Tryz.ntmps57]; simp) (fun f hf => by simp at hf; subst hf; exact ⟨hM, fun i hi => by have : i = b := hi; subst this; exact hbl⟩) ?_
  refine cj_seq (cj_region ?_)
  refine oj_box rfl rfl rfl (fun b3 => ?_)
  refine oj_step (y_assign rfl) rfl rfl rfl ?_
  refine oj_nil ?_
  refine ej_th (cj_seq (cj_region ?_))
  refine oj_step (y_fa0 fa26_0 rfl) rfl rfl rfl ?_
  refine oj_step (y_load1 Tryz.isAgg9 rfl rfl) rfl rfl rfl ?_
  refine oj_buildSlice (cs := [.string x.cls]) [.string ⟨#[]⟩] Tryz.underlying23 Tryz.sizeOf9 Tryz.zeroValue9 rfl rfl (by kernel_rfl) (by kernel_rfl) rfl (fun b12 => ?_)
  refine oj_litOw (b := b12) (e := 9) (c := 1) (sz := 1) (enc := enStr) [x.cls] rfl rfl rfl (by unfold maxLen; simp) ?_
  refine oj_step (y_assign rfl) rfl rfl rfl ?_
  refine oj_nil ?_
  refine ej_th (cj_seq (cj_seq ?_))
  refine cj_regionG (gj_step (y_move rfl) rfl rfl rfl (gj_step (y_fa0 fa26_0 rfl) rfl rfl rfl (gj_step (y_load1 Tryz.isAgg9 rfl rfl) rfl rfl rfl (gj_step (y_lookupS1 (ek := ekS) (ev := evC) zC Tryz.underlying73 Tryz.underlying9 Tryz.zeroValue37 rfl rfl) rfl rfl rfl (gj_step (y_field1 (cs := [.string ((getL g x.cls).getD zC).name, .slice ((getL g x.cls).getD zC).At ((getL g x.cls).getD zC).traits.length ((getL g x.cls).getD zC).ct, .slice ((getL g x.cls).getD zC).Ap ((getL g x.cls).getD zC).parts.length ((getL g x.cls).getD zC).cp, .int .i64 ((getL g x.cls).getD zC).most]) fa37_1 rfl rfl) rfl rfl rfl (gj_step (y_lenA Tryz.underlying35 rfl) rfl rfl rfl (gj_step (y_move rfl) rfl rfl rfl (gj_nil ?_))))))))
  refine ej_th (cj_block ?_)
  rw [hcl]
  refine cj_rd hGC.rt (fun _ h => h) ?_
  refine cj_rd hx.rs (fun _ h => h) ?_
  refine cj_rd hx.rp (fun _ h => h) ?_
  refine cj_lpi (X := Nat × Option Addr × Nat × List ByteArray) [(0, _), (3, _), (4, _), (17, _), (18, _)] (fun ⟨k, A1, c1, xs⟩ => k ≤ c.traits.length ∧ xs ++ (saidTok (c.traits.drop k) (x.says.drop k) ++ (tokP g true (x.parts.map ItemV.pl) ++ (if x.parts.length = 0 then ([] : List ByteArray) else [tClose]))) = tokT g x.pl) (fun ⟨k, A1, c1, xs⟩ => [(5, .slice A1 xs.length c1), (19, .int .i64 k)]) (fun ⟨k, A1, c1, xs⟩ => [ow 9 1 enStr A1 c1 xs, ownB b3 (cellsB 26 [.string x.cls, .slice x.As x.says.length x.cs, .slice x.Ap x.parts.length x.cp])]) (fun ⟨k, A1, c1, xs⟩ => [sl (fun b => b < w.heap.size) 3 encIt x.Ap x.parts, sl (fun b => b < w.heap.size) 1 enStr x.As x.says, sl (fun b => b < w.heap.size) 3 encTr c.At c.traits, mp ekS evC b g]) (fun ⟨k, A1, c1, xs⟩ => c.traits.length - k) (0, some ⟨b12, 0, none⟩, 1, [x.cls]) (⟨Nat.zero_le _, by rw [hTe]; rfl⟩) ⟨rfl, rfl, rfl, rfl, rfl, rfl, rfl, trivial⟩ ?_
  rintro ⟨k, A1, c1, xs⟩ ⟨hk, hxs⟩
  dsimp only [List.cons_append, List.nil_append]
  refine cj_seq ?_
  refine cj_regionG (gj_step (y_lss rfl rfl) rfl rfl rfl (gj_nil ?_))
  refine ej_th (cj_seq ?_)
  refine cj_cond rfl (fun h20 => ?_) (fun h20 => ?_)
  · have h20b := h20
    try simp only [sxb] at h20
    obtain ⟨t, ht⟩ : ∃ t, c.traits[k]? = some t := ⟨_, List.getElem?_eq_getElem (by omega)⟩
    obtain ⟨s, hs⟩ : ∃ s, x.says[k]? = some s := ⟨_, List.getElem?_eq_getElem (by omega)⟩
    rw [saidTok_drop _ _ k t s ht hs] at hxs
    refine cj_skip (ej_th (cj_seq (cj_block (cj_seq (cj_region ?_)))))
    refine oj_step (y_move rfl) rfl rfl rfl ?_
    refine oj_step (y_ixR (reads_sl) Tryz.underlying35 Tryz.sizeOf39 rfl rfl (⟨by omega, by omega⟩)) rfl rfl rfl ?_
    refine oj_step (y_ldW (reads_sl) Tryz.isAgg39 Tryz.sizeOf39 rfl (ht) (fun _ => rfl)) rfl rfl rfl ?_
    refine oj_alloc Tryz.zeroValue39 rfl rfl (fun b7 => ?_)
    refine oj_step (y_assign rfl) rfl rfl rfl ?_
    refine oj_store rfl rfl rfl rfl Tryz.sizeOf39 rfl ?_
    refine oj_nil ?_
    refine ej_th (cj_seq ?_)
    refine cj_regionG (gj_step (y_fa fa26_1 rfl) rfl rfl rfl (gj_step (y_load1 Tryz.isAgg23 rfl rfl) rfl rfl rfl (gj_step (y_move rfl) rfl rfl rfl (gj_step (y_ixR (reads_sl) Tryz.underlying23 Tryz.sizeOf9 rfl rfl (⟨by omega, by omega⟩)) rfl rfl rfl (gj_step (y_ld0 (reads_sl) Tryz.isAgg9 rfl (hs) rfl) rfl rfl rfl (gj_step (y_neqS rfl rfl) rfl rfl rfl (gj_nil ?_)))))))
    refine ej_th ?_
    refine cj_cond rfl (fun h29 => ?_) (fun h29 => ?_)
    · have h29b := h29
      try simp only [sxb] at h29
      rw [if_neg (show ¬ (s == (⟨#[]⟩ : ByteArray)) = true by rw [not_t h29b]; simp)] at hxs
      have hlen := congrArg List.length hxs
      simp only [List.length_append, List.length_cons] at hlen
      refine cj_plan 13 (by kernel_rfl) (by kernel_rfl) ?_
      refine pl_y 0 rfl (y_move rfl) rfl rfl rfl rfl (by kernel_rfl) ?_
      refine pl_y 1 rfl (y_fa0 fa39_0 rfl) rfl rfl rfl rfl (by kernel_rfl) ?_
      refine pl_y 2 rfl (y_load1 Tryz.isAgg9 rfl rfl) rfl rfl rfl rfl (by kernel_rfl) ?_
      refine pl_y 3 rfl (y_addS rfl rfl (by have h1s : (⟨#[61]⟩ : ByteArray).size = 1 := rfl; have := htn t (List.mem_of_getElem? ht); omega)) rfl rfl rfl rfl (by kernel_rfl) ?_
      refine pl_y 4 rfl (y_fa fa26_1 rfl) rfl rfl rfl rfl (by kernel_rfl) ?_
      refine pl_y 5 rfl (y_load1 Tryz.isAgg23 rfl rfl) rfl rfl rfl rfl (by kernel_rfl) ?_
      refine pl_y 6 rfl (y_move rfl) rfl rfl rfl rfl (by kernel_rfl) ?_
      refine pl_y 7 rfl (y_ixR (reads_sl) Tryz.underlying23 Tryz.sizeOf9 rfl rfl (⟨by omega, by omega⟩)) rfl rfl rfl rfl (by kernel_rfl) ?_
      refine pl_y 8 rfl (y_ld0 (reads_sl) Tryz.isAgg9 rfl (hs) rfl) rfl rfl rfl rfl (by kernel_rfl) ?_
      refine pl_y 9 rfl (y_addS rfl rfl (by rw [ByteArray.size_append]; have h1s : (⟨#[61]⟩ : ByteArray).size = 1 := rfl; have := htn t (List.mem_of_getElem? ht); have := hss s (List.mem_of_getElem? hs); omega)) rfl rfl rfl rfl (by kernel_rfl) ?_
      refine pl_w1 10 (by kernel_rfl) rfl rfl (pl_fire rfl rfl rfl (by kernel_rfl) ?_)
      refine oj_buildSlice (cs := [.string (t.name ++ tEq ++ s)]) [.string ⟨#[]⟩] Tryz.underlying23 Tryz.sizeOf9 Tryz.zeroValue9 rfl rfl (by kernel_rfl) (by kernel_rfl) rfl (fun b40 => ?_)
      refine oj_nil ?_
      refine ej_pl (lt_w (by kernel_rfl) (lt_y (y_ld0 (reads_sl) Tryz.isAgg9 rfl (hs) rfl) rfl (lt_y (y_ixR (reads_sl) Tryz.underlying23 Tryz.sizeOf9 rfl rfl (⟨by omega, by omega⟩)) rfl (lt_y (y_move rfl) rfl (lt_y (y_load1 Tryz.isAgg23 rfl rfl) rfl (lt_y (y_fa fa26_1 rfl) rfl (lt_y (y_addS rfl rfl (by have h1s : (⟨#[61]⟩ : ByteArray).size = 1 := rfl; have := htn t (List.mem_of_getElem? ht); omega)) rfl (lt_y (y_load1 Tryz.isAgg9 rfl rfl) rfl (lt_y (y_fa0 fa39_0 rfl) rfl (lt_y (y_move rfl) rfl (lt_nil))))))))))) ?_
      refine pl_w1 11 (by kernel_rfl) rfl rfl (pl_fire rfl rfl rfl (by kernel_rfl) ?_)
      refine oj_append  el23 (fun _ => rfl) enStr_one rfl rfl rfl (reads_lit [(t.name ++ tEq ++ s)] (fun _ => rfl) rfl) (by unfold maxLen; simp only [List.length_cons, List.length_nil]; omega) (by simp only [List.length_cons, List.length_nil]; omega) rfl (fun A41 c41 => ?_)
      refine oj_nil ?_
      refine ej_pl (lt_y (y_addS rfl rfl (by rw [ByteArray.size_append]; have h1s : (⟨#[61]⟩ : ByteArray).size = 1 := rfl; have := htn t (List.mem_of_getElem? ht); have := hss s (List.mem_of_getElem? hs); omega)) rfl (lt_y (y_ld0 (reads_sl) Tryz.isAgg9 rfl (hs) rfl) rfl (lt_y (y_ixR (reads_sl) Tryz.underlying23 Tryz.sizeOf9 rfl rfl (⟨by omega, by omega⟩)) rfl (lt_y (y_move rfl) rfl (lt_y (y_load1 Tryz.isAgg23 rfl rfl) rfl (lt_y (y_fa fa26_1 rfl) rfl (lt_y (y_addS rfl rfl (by have h1s : (⟨#[61]⟩ : ByteArray).size = 1 := rfl; have := htn t (List.mem_of_getElem? ht); omega)) rfl (lt_y (y_load1 Tryz.isAgg9 rfl rfl) rfl (lt_y (y_fa0 fa39_0 rfl) rfl (lt_w (by kernel_rfl) (lt_nil))))))))))) ?_
      refine pl_y 12 rfl (y_assign rfl) rfl rfl rfl rfl (by kernel_rfl) ?_
      refine pl_end (by kernel_rfl) ?_
      refine ej_blk (ej_th ?_)
      refine cj_regionG (gj_step (y_add rfl rfl (by omega)) rfl rfl rfl (gj_step (y_move rfl) rfl rfl rfl (gj_nil ?_)))
      exact ej_nx (k + 1, A41, c41, xs ++ [t.name ++ tEq ++ s]) (by simp only; omega) ⟨by first | omega | (simp only; omega), by rw [List.append_assoc]; exact hxs⟩ ⟨rfl, rfl, rfl, rfl, rfl, rfl, rfl, trivial⟩
    · have h29b := h29
      try simp only [sxb] at h29
      rw [if_pos (not_f h29b)] at hxs
      refine cj_skip (ej_blk (ej_th ?_))
      refine cj_regionG (gj_step (y_add rfl rfl (by omega)) rfl rfl rfl (gj_step (y_move rfl) rfl rfl rfl (gj_nil ?_)))
      exact ej_nx (k + 1, A1, c1, xs) (by simp only; omega) ⟨by first | omega | (simp only; omega), hxs⟩ ⟨rfl, rfl, rfl, rfl, rfl, rfl, rfl, trivial⟩
  · have h20b := h20
    try simp only [sxb] at h20
    rw [List.drop_of_length_le (show c.traits.length ≤ k by omega)] at hxs
    refine cj_exit (ej_then_exit (ej_then_exit (ej_blk_hit (ej_th (cj_seq (cj_seq ?_))))))
    refine cj_regionG (gj_step (y_fa fa26_2 rfl) rfl rfl rfl (gj_step (y_load1 Tryz.isAgg24 rfl rfl) rfl rfl rfl (gj_step (y_lenA Tryz.underlying24 rfl) rfl rfl rfl (gj_step (y_move rfl) rfl rfl rfl (gj_nil ?_)))))
    refine ej_th (cj_block ?_)
    refine cj_lpi (X := Nat × Option Addr × Nat × List ByteArray) [(0, _), (3, _), (4, _), (44, _), (45, _)] (fun ⟨k, A1, c1, xs⟩ => k ≤ x.parts.length ∧ xs ++ (tokP g (decide (k = 0)) ((x.parts.map ItemV.pl).drop k) ++ (if x.parts.length = 0 then ([] : List ByteArray) else [tClose])) = tokT g x.pl) (fun ⟨k, A1, c1, xs⟩ => [(5, .slice A1 xs.length c1), (46, .int .i64 k)]) (fun ⟨k, A1, c1, xs⟩ => [ow 9 1 enStr A1 c1 xs, ownB b3 (cellsB 26 [.string x.cls, .slice x.As x.says.length x.cs, .slice x.Ap x.parts.length x.cp])]) (fun ⟨k, A1, c1, xs⟩ => [sl (fun b => b < w.heap.size) 3 encIt x.Ap x.parts, sl (fun b => b < w.heap.size) 1 enStr x.As x.says, sl (fun b => b < w.heap.size) 3 encTr c.At c.traits, mp ekS evC b g]) (fun ⟨k, A1, c1, xs⟩ => x.parts.length - k) (0, A1, c1, xs) (⟨Nat.zero_le _, by rw [← hxs]; rfl⟩) ⟨rfl, rfl, rfl, rfl, rfl, rfl, rfl, trivial⟩ ?_
    rintro ⟨k, A1, c1, xs⟩ ⟨hk, hxs⟩
    dsimp only [List.cons_append, List.nil_append]
    refine cj_seq ?_
    refine cj_regionG (gj_step (y_lss rfl rfl) rfl rfl rfl (gj_nil ?_))
    refine ej_th (cj_seq ?_)
    refine cj_cond rfl (fun h47 => ?_) (fun h47 => ?_)
    · have h47b := h47
      try simp only [sxb] at h47
      obtain ⟨q, hq⟩ : ∃ q, x.parts[k]? = some q := ⟨_, List.getElem?_eq_getElem (by omega)⟩
      rw [tokP_drop g (x.parts.map ItemV.pl) k q.pl (by rw [List.getElem?_map, hq]; rfl)] at hxs
      have hsep : ([tOpen, tSemi] : List ByteArray)[(min (k : Int) 1).toNat]? = some (if k = 0 then tOpen else tSemi) := by
        by_cases h0 : k = 0
        · subst h0; rfl
        · rw [if_neg h0, show (min (k : Int) 1).toNat = 1 by omega]; rfl
      have hlen := congrArg List.length hxs
      simp only [List.length_append, List.length_cons] at hlen
      refine cj_skip (ej_th (cj_seq (cj_block (cj_seq (cj_region ?_)))))
      refine oj_step (y_move rfl) rfl rfl rfl ?_
      refine oj_step (y_ixR (reads_sl) Tryz.underlying24 Tryz.sizeOf26 rfl rfl (⟨by omega, by omega⟩)) rfl rfl rfl ?_
      refine oj_step (y_ldW (reads_sl) Tryz.isAgg26 Tryz.sizeOf26 rfl (hq) (fun _ => rfl)) rfl rfl rfl ?_
      refine oj_alloc Tryz.zeroValue26 rfl rfl (fun b9 => ?_)
      refine oj_step (y_assign rfl) rfl rfl rfl ?_
      refine oj_store rfl rfl rfl rfl Tryz.sizeOf26 rfl ?_
      refine oj_nil ?_
      refine ej_th (cj_seq (cj_region ?_))
      refine oj_step (y_move rfl) rfl rfl rfl ?_
      refine oj_buildSlice (cs := [.string ⟨#[40]⟩, .string ⟨#[59]⟩]) [.string ⟨#[]⟩, .string ⟨#[]⟩] Tryz.underlying23 Tryz.sizeOf9 Tryz.zeroValue9 rfl rfl (by kernel_rfl) (by kernel_rfl) rfl (fun b52 => ?_)
      refine oj_step (y_move rfl) rfl rfl rfl ?_
      refine oj_step (y_min rfl rfl) rfl rfl rfl ?_
      refine oj_step (y_ixR (reads_lit (enc := enStr) (sz := 1) [tOpen, tSemi] (fun _ => rfl) rfl) Tryz.underlying23 Tryz.sizeOf9 rfl rfl (⟨by omega, by simp only [List.length_cons, List.length_nil]; omega⟩)) rfl rfl rfl ?_
      refine oj_step (y_ld0 (reads_lit (enc := enStr) (sz := 1) [tOpen, tSemi] (fun _ => rfl) rfl) Tryz.isAgg9 rfl (hsep) rfl) rfl rfl rfl ?_
      refine oj_buildSlice (cs := [.string (if k = 0 then tOpen else tSemi)]) [.string ⟨#[]⟩] Tryz.underlying23 Tryz.sizeOf9 Tryz.zeroValue9 rfl rfl (by kernel_rfl) (by kernel_rfl) rfl (fun b57 => ?_)
      refine oj_append  el23 (fun _ => rfl) enStr_one rfl rfl rfl (reads_lit [(if k = 0 then tOpen else tSemi)] (fun _ => rfl) rfl) (by unfold maxLen; simp only [List.length_cons, List.length_nil]; omega) (by simp only [List.length_cons, List.length_nil]; omega) rfl (fun A58 c58 => ?_)
      refine oj_step (y_assign rfl) rfl rfl rfl ?_
      refine oj_nil ?_
      refine ej_th (cj_region ?_)
      refine oj_step (y_move rfl) rfl rfl rfl ?_
      refine oj_step (y_move rfl) rfl rfl rfl ?_
      refine oj_step (y_loadN Tryz.isAgg26 Tryz.sizeOf26 rfl) rfl rfl rfl ?_
      refine oj_callO (fun A c => .slice A (tokT g q.pl).length c) 9 1 enStr (tokT g q.pl) Tryz.call57 rfl (fun w1 hp => by have h := ih q (List.mem_of_getElem? hq) w1 hp.below; exact h) rfl (fun A62 c62 => ?_)
      refine oj_append  el23 (fun _ => rfl) enStr_one rfl rfl rfl (reads_ow (fun _ => rfl)) (by unfold maxLen; simp only [List.length_append, List.length_cons, List.length_nil]; omega) (by simp only [List.length_append, List.length_cons, List.length_nil]; omega) rfl (fun A63 c63 => ?_)
      refine oj_step (y_assign rfl) rfl rfl rfl ?_
      refine oj_nil ?_
      refine ej_blk (ej_th ?_)
      refine cj_regionG (gj_step (y_add rfl rfl (by omega)) rfl rfl rfl (gj_step (y_move rfl) rfl rfl rfl (gj_nil ?_)))
      exact ej_nx (k + 1, A63, c63, (xs ++ [if k = 0 then tOpen else tSemi]) ++ tokT g q.pl) (by simp only; omega) ⟨by first | omega | (simp only; omega), by rw [← hxs]; simp only [List.append_assoc, List.cons_append, List.nil_append]⟩ ⟨rfl, rfl, rfl, rfl, rfl, rfl, rfl, trivial⟩
    · have h47b := h47
      try simp only [sxb] at h47
      rw [List.drop_of_length_le (show (x.parts.map ItemV.pl).length ≤ k by rw [List.length_map]; omega), tokP, List.nil_append] at hxs
      refine cj_exit (ej_then_exit (ej_then_exit (ej_blk_hit (ej_th (cj_seq (cj_seq ?_))))))
      refine cj_regionG (gj_step (y_fa fa26_2 rfl) rfl rfl rfl (gj_step (y_load1 Tryz.isAgg24 rfl rfl) rfl rfl rfl (gj_step (y_lenA Tryz.underlying24 rfl) rfl rfl rfl (gj_step (y_gtr rfl rfl) rfl rfl rfl (gj_nil ?_)))))
      refine ej_th ?_
      refine cj_cond rfl (fun h68 => ?_) (fun h68 => ?_)
      · have h68b := h68
        try simp only [sxb] at h68
        rw [if_neg (show ¬ x.parts.length = 0 by omega)] at hxs
        have hlen := congrArg List.length hxs
        simp only [List.length_append, List.length_cons] at hlen
        refine cj_region ?_
        refine oj_step (y_move rfl) rfl rfl rfl ?_
        refine oj_buildSlice (cs := [.string ⟨#[41]⟩]) [.string ⟨#[]⟩] Tryz.underlying23 Tryz.sizeOf9 Tryz.zeroValue9 rfl rfl (by kernel_rfl) (by kernel_rfl) rfl (fun b70 => ?_)
        refine oj_append  el23 (fun _ => rfl) enStr_one rfl rfl rfl (reads_lit [tClose] (fun _ => rfl) rfl) (by unfold maxLen; simp only [List.length_cons, List.length_nil]; omega) (by simp only [List.length_cons, List.length_nil]; omega) rfl (fun A71 c71 => ?_)
        refine oj_step (y_assign rfl) rfl rfl rfl ?_
        refine oj_nil ?_
        refine ej_th (cj_seq ?_)
        refine cj_regionG (gj_step (y_move rfl) rfl rfl rfl (gj_step (y_assign rfl) rfl rfl rfl (gj_nil ?_)))
        refine ej_th (cj_ret ?_)
        exact ej_ret1 rfl Tryz.results57 rfl (fun w' hp => ⟨A71, c71, by rw [← hxs], hp.below, by rw [← hxs]; exact hp.resO⟩)
      · have h68b := h68
        try simp only [sxb] at h68
        rw [if_pos (show x.parts.length = 0 by omega), List.append_nil] at hxs
        refine cj_skip (ej_th (cj_seq ?_))
        refine cj_regionG (gj_step (y_move rfl) rfl rfl rfl (gj_step (y_assign rfl) rfl rfl rfl (gj_nil ?_)))
        refine ej_th (cj_ret ?_)
        exact ej_ret1 rfl Tryz.results57 rfl (fun w' hp => ⟨A1, c1, by rw [← hxs], hp.below, by rw [← hxs]; exact hp.resO⟩)

theorem k_tok {w0 : World} {b : Nat} {g : List (ByteArray × ClassV)} {x : ItemV} (hx : GoodI w0 x) : ∀ (w : World), Grow w0 w → (mp ekS evC b g).P w → b < w.heap.size → (∀ p ∈ g, GoodC w p.2) → OkT g x.pl → cntT x.pl ≤ 24 → Calls Tryz.prog 57 #[.map (some b), evI x] w (fun e w' => ∃ A c, e = .returned (.slice A (tokT g x.pl).length c) ∧ Grow w w' ∧ (ow 9 1 enStr A c (tokT g x.pl)).P w' ∧ ∀ i, (ow 9 1 enStr A c (tokT g x.pl)).fp i → w.heap.size ≤ i) := by
  induction hx with
  | @mk x hs hp hn hm hr ih =>
    intro w hg hM hbl hgg ho hc
    refine k_tok1 x b g w hM hbl hgg ((GoodI.mk hs hp hn hm hr).mono hg) ho hc (fun p hpm w1 hg1 => ?_)
    have hpo : p.pl ∈ x.pl.parts := by rw [pl_parts]; exact List.mem_map.2 ⟨p, hpm, rfl⟩
    have hcp : cntT p.pl ≤ 24 := by have h1 := cntL_mem _ _ hpo; have h2 := cntT_eq x.pl; omega
    exact ih p hpm w1 (grow_trans hg hg1) ((mp ekS evC b g).stab (fun i hi => hg1.block i (by have : i = b := hi; omega)) hM) (Nat.lt_of_lt_of_le hbl hg1.size) (fun q hq => (hgg q hq).mono hg1) (ho.pt _ hpo) hcp

theorem k_joined (A : Option Addr) (c : Nat) (xs : List ByteArray) (w : World) (hO : (ow 9 1 enStr A c xs).P w) (hne : xs ≠ []) (hN : xs.length ≤ 1000000) (hlen : (jn xs).size ≤ 1000000) : Calls Tryz.prog 56 #[.slice A xs.length c] w (fun e w' => e = .returned (.string (jn xs)) ∧ Grow w w') := by
  refine enter_pure (args := [.slice A xs.length c]) [ow 9 1 enStr A c xs] Tryz.func56 rfl (by rw [Tryz.ntmps56]; simp) (fun g hg => by simp at hg; subst hg; exact ⟨hO, ow_lt hO hne⟩) ?_
  refine cj_seq ?_
  refine cj_regionG (gj_step (y_assign rfl) rfl rfl rfl (gj_nil ?_))
  refine ej_th (cj_seq ?_)
  refine cj_regionG ?_
  refine gj_step (y_move rfl) rfl rfl rfl (?_)
  refine gj_step (y_call Tryz.call83 rfl (fun w hp => join_ok A c xs w (hp.shared _ (List.mem_singleton.2 rfl)).1 hne hN hlen)) rfl rfl rfl ?_
  refine gj_step (y_assign rfl) rfl rfl rfl (?_)
  refine gj_nil ?_
  refine ej_th (cj_ret ?_)
  exact ej_ret1 rfl Tryz.results56 rfl (fun w' hp => ⟨rfl, hp.below⟩)

theorem k_text (x : ItemV) (b : Nat) (g : List (ByteArray × ClassV)) (w : World) (hM : (mp ekS evC b g).P w) (hbl : b < w.heap.size) (hgg : ∀ p ∈ g, GoodC w p.2) (hx : GoodI w x) (ho : OkT g x.pl) (hcn : cntT x.pl ≤ 24) : Calls Tryz.prog 28 #[.map (some b), evI x] w (fun e w' => e = .returned (.string (txtT g x.pl)) ∧ Grow w w') := by
  have hTl : (tokT g x.pl).length ≤ 264 := by have := tok_len x.pl ho; omega
  have hTs := txt_size ho hcn
  refine enter_pure (args := [.map (some b), evI x]) [mp ekS evC b g] Tryz.func28 rfl (by rw [Tryz.ntmps28]; simp) (fun f hf => by simp at hf; subst hf; exact ⟨hM, fun i hi => by have : i = b := hi; subst this; exact hbl⟩) ?_
  refine cj_seq (cj_region ?_)
  refine oj_box rfl rfl rfl (fun b3 => ?_)
  refine oj_step (y_assign rfl) rfl rfl rfl ?_
  refine oj_nil ?_
  refine ej_th (cj_seq (cj_region ?_))
  refine oj_step (y_move rfl) rfl rfl rfl ?_
  refine oj_step (y_loadN Tryz.isAgg26 Tryz.sizeOf26 rfl) rfl rfl rfl ?_
  refine oj_callO (fun A c => .slice A (tokT g x.pl).length c) 9 1 enStr (tokT g x.pl) Tryz.call57 rfl (fun w1 hp => by have h := k_tok hx w1 hp.below hp.mpS.1 (hp.mpS (b := b) (ek := ekS) (ev := evC) (l := g)).2 (fun q hq => (hgg q hq).mono hp.below) ho hcn; exact h) rfl (fun A7 c7 => ?_)
  refine oj_step (y_call Tryz.call56 rfl (fun w hp => k_joined A7 c7 (tokT g x.pl) w (hp.own _ (List.mem_cons_self ..)).1 (tok_ne g x.pl) (by omega) (by unfold txtT at hTs; omega))) rfl rfl rfl ?_
  refine oj_step (y_assign rfl) rfl rfl rfl ?_
  refine oj_nil ?_
  refine ej_th (cj_ret ?_)
  exact ej_ret1 rfl Tryz.results28 rfl (fun w' hp => ⟨rfl, hp.below⟩)

end Go.Proofs.YtlfbghkcfmcnlaaGreatDoor
namespace Go.Proofs.YtlfbghkcfmcnlaaGreatDoor
open Go.Sx Go.RowKit
set_option maxRecDepth 20000
theorem memD {ys : List ItemV} {i : Nat} (h : i < ys.length) : ys.getD i default ∈ ys := by
  rw [List.getD_eq_getElem?_getD, List.getElem?_eq_getElem h]; exact List.getElem_mem _

theorem k_nanS (s : ByteArray) (w : World)  : Calls Tryz.prog 106 #[.string s] w (fun e w' => e = .returned (.bool false) ∧ Grow w w') := by
  refine enter_pure (args := [.string s]) [] Tryz.func106 rfl (by rw [Tryz.ntmps106]; simp) (by simp) ?_
  refine cj_seq ?_
  refine cj_regionG (gj_step (y_assign rfl) rfl rfl rfl (gj_nil ?_))
  refine ej_th (cj_seq ?_)
  refine cj_regionG (gj_step (y_move rfl) rfl rfl rfl (gj_step (y_move rfl) rfl rfl rfl (gj_step (y_neqS rfl rfl) rfl rfl rfl (gj_step (y_assign rfl) rfl rfl rfl (gj_nil ?_)))))
  refine ej_th (cj_ret ?_)
  refine ej_ret1 rfl Tryz.results106 rfl (fun w' hp => ⟨?_, hp.below⟩)
  rw [bytes_beq]; simp

theorem k_CmpS (s t : ByteArray) (w : World)  : Calls Tryz.prog 94 #[.string s, .string t] w (fun e w' => e = .returned (.int .i64 (cmpS s t)) ∧ Grow w w') := by
  refine enter_pure (args := [.string s, .string t]) [] Tryz.func94 rfl (by rw [Tryz.ntmps94]; simp) (by simp) ?_
  refine cj_seq ?_
  refine cj_regionG (gj_step (y_assign rfl) rfl rfl rfl (gj_nil ?_))
  refine ej_th (cj_seq ?_)
  refine cj_regionG ?_
  refine gj_step (y_move rfl) rfl rfl rfl (?_)
  refine gj_step (y_call Tryz.call106 rfl (fun w hp => k_nanS _ w)) rfl rfl rfl ?_
  refine gj_step (y_assign rfl) rfl rfl rfl (?_)
  refine gj_nil ?_
  refine ej_th (cj_seq ?_)
  refine cj_regionG ?_
  refine gj_step (y_move rfl) rfl rfl rfl (?_)
  refine gj_step (y_call Tryz.call106 rfl (fun w hp => k_nanS _ w)) rfl rfl rfl ?_
  refine gj_step (y_assign rfl) rfl rfl rfl (?_)
  refine gj_nil ?_
  refine ej_th (cj_seq (cj_seq ?_))
  refine cj_regionG (gj_step (y_move rfl) rfl rfl rfl (gj_nil ?_))
  refine ej_th ?_
  refine cj_cond rfl (fun h11 => ?_) (fun h11 => ?_)
  · cases h11
  · have h11b := h11
    try simp only [sxb] at h11
    refine cj_skip (ej_th (cj_seq (cj_seq ?_)))
    refine cj_regionG (gj_step (y_move rfl) rfl rfl rfl (gj_nil ?_))
    refine ej_th ?_
    refine cj_cond rfl (fun h13 => ?_) (fun h13 => ?_)
    · have h13b := h13
      try simp only [sxb] at h13
      refine cj_seq ?_
      refine cj_regionG (gj_step (y_assign rfl) rfl rfl rfl (gj_nil ?_))
      refine ej_th (cj_ret (ej_then_ret ?_))
      cases h13
    · have h13b := h13
      try simp only [sxb] at h13
      refine cj_skip (ej_th (cj_seq (cj_seq ?_)))
      refine cj_regionG (gj_step (y_move rfl) rfl rfl rfl (gj_step (y_move rfl) rfl rfl rfl (gj_step (y_lssS rfl rfl) rfl rfl rfl (gj_nil ?_))))
      refine ej_th ?_
      refine cj_cond rfl (fun h16 => ?_) (fun h16 => ?_)
      · have h16b := h16
        try simp only [sxb] at h16
        refine cj_seq ?_
        refine cj_regionG (gj_step (y_assign rfl) rfl rfl rfl (gj_nil ?_))
        refine ej_th (cj_ret (ej_then_ret ?_))
        refine ej_ret1 rfl Tryz.results94 rfl (fun w' hp => ⟨?_, hp.below⟩)
        rw [cmpS, if_pos h16b]
      · have h16b := h16
        try simp only [sxb] at h16
        refine cj_skip (ej_th (cj_seq (cj_seq ?_)))
        refine cj_regionG (gj_step (y_move rfl) rfl rfl rfl (gj_step (y_move rfl) rfl rfl rfl (gj_step (y_gtrS rfl rfl) rfl rfl rfl (gj_nil ?_))))
        refine ej_th ?_
        refine cj_cond rfl (fun h19 => ?_) (fun h19 => ?_)
        · have h19b := h19
          try simp only [sxb] at h19
          refine cj_seq ?_
          refine cj_regionG (gj_step (y_assign rfl) rfl rfl rfl (gj_nil ?_))
          refine ej_th (cj_ret (ej_then_ret ?_))
          refine ej_ret1 rfl Tryz.results94 rfl (fun w' hp => ⟨?_, hp.below⟩)
          rw [cmpS, if_neg (by simp [h16b]), if_pos h19b]
        · have h19b := h19
          try simp only [sxb] at h19
          refine cj_skip (ej_th (cj_seq ?_))
          refine cj_regionG (gj_step (y_assign rfl) rfl rfl rfl (gj_nil ?_))
          refine ej_th (cj_ret ?_)
          refine ej_ret1 rfl Tryz.results94 rfl (fun w' hp => ⟨?_, hp.below⟩)
          rw [cmpS, if_neg (by simp [h16b]), if_neg (by rw [h19b]; simp)]

theorem k_cmpcl (p q : ItemV) (b m : Nat) (g : List (ByteArray × ClassV)) (w : World) (hb : (ownB b (cellsB 73 [.map (some m)])).P w) (hM : (mp ekS evC m g).P w) (hbl : m < w.heap.size) (hgg : ∀ p ∈ g, GoodC w p.2) (hp0 : GoodI w p) (hq0 : GoodI w q) (hsp : SortI g p) (hsq : SortI g q) : Calls Tryz.prog 93 #[evI p, evI q, .pointer (some ⟨b, 0, none⟩)] w (fun e w' => e = .returned (.int .i64 (cmpS (txtT g p.pl) (txtT g q.pl))) ∧ Grow w w') := by
  refine enter_pure (args := [evI p, evI q, .pointer (some ⟨b, 0, none⟩)]) [ownB b (cellsB 73 [.map (some m)]), mp ekS evC m g] Tryz.func93 rfl (by rw [Tryz.ntmps93]; simp) (fun f hf => by simp only [List.mem_cons, List.mem_nil_iff, or_false] at hf; rcases hf with rfl | rfl; exact ⟨hb, fun i hi => by have : i = b := hi; subst this; exact (Array.getElem?_eq_some_iff.1 hb).1⟩; exact ⟨hM, fun i hi => by have : i = m := hi; subst this; exact hbl⟩) ?_
  refine cj_seq (cj_region ?_)
  refine oj_box rfl rfl rfl (fun b3 => ?_)
  refine oj_box rfl rfl rfl (fun b4 => ?_)
  refine oj_step (y_assign rfl) rfl rfl rfl ?_
  refine oj_nil ?_
  refine ej_th (cj_seq ?_)
  refine cj_draw (by kernel_rfl) (by kernel_rfl) ?_
  refine gj_step (y_loadS1 Tryz.isAgg73 rfl rfl) rfl rfl rfl (gj_step (y_loadN Tryz.isAgg26 Tryz.sizeOf26 rfl) rfl rfl rfl (?_))
  refine gj_step (y_call Tryz.call28 rfl (fun w hp => k_text p m g w hp.mpS.1 (hp.mpS (b := m) (ek := ekS) (ev := evC) (l := g)).2 (fun r hr => (hgg r hr).mono hp.below) (hp0.mono hp.below) hsp.ok hsp.cnt)) rfl rfl rfl ?_
  refine gj_step (y_loadS1 Tryz.isAgg73 rfl rfl) rfl rfl rfl (gj_step (y_loadN Tryz.isAgg26 Tryz.sizeOf26 rfl) rfl rfl rfl (?_))
  refine gj_step (y_call Tryz.call28 rfl (fun w hp => k_text q m g w hp.mpS.1 (hp.mpS (b := m) (ek := ekS) (ev := evC) (l := g)).2 (fun r hr => (hgg r hr).mono hp.below) (hq0.mono hp.below) hsq.ok hsq.cnt)) rfl rfl rfl ?_
  refine gj_step (y_call Tryz.call94 rfl (fun w hp => k_CmpS _ _ w)) rfl rfl rfl ?_
  refine gj_step (y_assign rfl) rfl rfl rfl (?_)
  refine gj_nil ?_
  refine ej_th (cj_ret ?_)
  exact ej_ret1 rfl Tryz.results93 rfl (fun w' hp => ⟨rfl, hp.below⟩)

set_option maxHeartbeats 1000000 in
theorem k_insort (l : List ItemV) (A : Option Addr) (cap : Nat) (b m : Nat) (g : List (ByteArray × ClassV)) (hn6 : l.length ≤ 6) (w : World) (hO : (ow 26 3 encIt A cap (l)).P w) (hlt : ∀ i, (ow 26 3 encIt A cap (l)).fp i → i < w.heap.size) (w0 : World) (hw0 : Grow w0 w) (hgg : ∀ p ∈ g, GoodC w0 p.2) (hw0f : ∀ i, (ow 26 3 encIt A cap (l)).fp i → w0.heap.size ≤ i) (fp : Nat → Prop) (hit : (itF fp l).P w) (hfp : ∀ i, fp i → i < w.heap.size ∧ ¬ (ow 26 3 encIt A cap (l)).fp i) (hb : (ownB b (cellsB 73 [.map (some m)])).P w) (hbn : ¬ (ow 26 3 encIt A cap (l)).fp b) (hM : (mp ekS evC m g).P w) (hbl : m < w.heap.size) (hmn : ¬ (ow 26 3 encIt A cap (l)).fp m) (hso : ∀ x ∈ l, SortI g x) : Calls Tryz.prog 113 #[.slice A l.length cap, .int .i64 0, .int .i64 l.length, .func (.func 93) #[] #[.pointer (some ⟨b, 0, none⟩)]] w (fun e w' => e = .returned (.tuple #[]) ∧ Mut (ow 26 3 encIt A cap (l)) w w' ∧ (ow 26 3 encIt A cap (isort (ltV g) [] l)).P w') := by
  have hF : ∀ j, j < w0.heap.size → j < w.heap.size ∧ ¬ (ow 26 3 encIt A cap l).fp j := fun j h => ⟨Nat.lt_of_lt_of_le h hw0.size, fun e => by have := hw0f j e; omega⟩
  refine enter_ow (args := [.slice A l.length cap, .int .i64 0, .int .i64 l.length, .func (.func 93) #[] #[.pointer (some ⟨b, 0, none⟩)]]) [ownB b (cellsB 73 [.map (some m)]), mp ekS evC m g, itF fp l] Tryz.func113 rfl (by rw [Tryz.ntmps113]; simp) hO hlt (fun f hf => by simp only [List.mem_cons, List.mem_nil_iff, or_false] at hf; rcases hf with rfl | rfl | rfl; exact ⟨hb, fun i hi => by have : i = b := hi; subst this; exact ⟨(Array.getElem?_eq_some_iff.1 hb).1, hbn⟩⟩; exact ⟨hM, fun i hi => by have : i = m := hi; subst this; exact ⟨hbl, hmn⟩⟩; exact ⟨hit, hfp⟩) ?_
  refine cj_seq ?_
  refine cj_regionG (gj_step (y_move rfl) rfl rfl rfl (gj_step (y_add rfl rfl (by omega)) rfl rfl rfl (gj_step (y_assign rfl) rfl rfl rfl (gj_nil ?_))))
  refine ej_th (cj_block ?_)
  refine cj_lpi (X := Nat × List ItemV) [(0, _), (1, _), (2, _), (3, _)] (fun ⟨i, xs⟩ => 1 ≤ i ∧ xs = isort (ltV g) [] (l.take i) ++ l.drop i) (fun ⟨i, xs⟩ => [(8, .int .i64 i)]) (fun ⟨i, xs⟩ => [ow 26 3 encIt A cap xs]) (fun ⟨i, xs⟩ => [ownB b (cellsB 73 [.map (some m)]), mp ekS evC m g, itF fp l]) (fun ⟨i, xs⟩ => l.length - i) (1, l) (⟨Nat.le_refl _, by cases l <;> rfl⟩) ⟨rfl, rfl, rfl, rfl, rfl, trivial⟩ ?_
  rintro ⟨i, xs⟩ ⟨hi, hxs⟩
  dsimp only [List.cons_append, List.nil_append]
  refine cj_seq (cj_seq ?_)
  refine cj_regionG (gj_step (y_move rfl) rfl rfl rfl (gj_step (y_move rfl) rfl rfl rfl (gj_step (y_lss rfl rfl) rfl rfl rfl (gj_nil ?_))))
  refine ej_th ?_
  refine cj_cond rfl (fun h14 => ?_) (fun h14 => ?_)
  · have h14b := h14
    try simp only [sxb] at h14
    obtain ⟨x, hx⟩ : ∃ x, l[i]? = some x := ⟨_, List.getElem?_eq_getElem (by omega)⟩
    obtain ⟨P, hP⟩ : ∃ P, P = isort (ltV g) [] (l.take i) := ⟨_, rfl⟩
    rw [← hP] at hxs
    have hPl : P.length = i := by rw [hP, isort_len]; simp only [List.length_take, List.length_nil]; omega
    have hPm : ∀ u ∈ P, u ∈ l := fun u hu => by
      rw [hP, isort_mem] at hu
      rcases hu with hu | hu
      · cases hu
      · exact List.mem_of_mem_take hu
    have hxs2 : xs = P.take i ++ x :: (P.drop i ++ l.drop (i + 1)) := by
      obtain ⟨h1, h2⟩ := List.getElem?_eq_some_iff.1 hx
      have hd : P.drop i = [] := List.drop_of_length_le (by omega)
      have ht : P.take i = P := List.take_of_length_le (by omega)
      rw [hxs, List.drop_eq_getElem_cons h1, h2, hd, ht]; rfl
    have hml : ∀ {j : Nat} (u : ItemV), u ∈ P.take j ++ x :: (P.drop j ++ l.drop (i + 1)) → u ∈ l := by
      intro j u hu
      rw [List.mem_append, List.mem_cons, List.mem_append] at hu
      rcases hu with hu | rfl | hu | hu
      · exact hPm u (List.mem_of_mem_take hu)
      · exact List.mem_of_getElem? hx
      · exact hPm u (List.mem_of_mem_drop hu)
      · exact List.mem_of_mem_drop hu
    have hxl : xs.length = l.length := by rw [hxs2, mid_len P _ x i (by omega)]; simp only [List.length_drop]; omega
    rw [← hxl]
    refine cj_skip (ej_th (cj_seq (cj_block (cj_seq ?_))))
    refine cj_regionG (gj_step (y_move rfl) rfl rfl rfl (gj_step (y_assign rfl) rfl rfl rfl (gj_nil ?_)))
    refine ej_th (cj_block ?_)
    refine cj_lpi (X := Nat × List ItemV) [(8, _), (0, _), (1, _), (2, _), (3, _)] (fun ⟨j, ys⟩ => j ≤ i ∧ ys = P.take j ++ x :: (P.drop j ++ l.drop (i + 1)) ∧ insAt (ltV g) P x j = insAt (ltV g) P x i) (fun ⟨j, ys⟩ => [(9, .int .i64 j)]) (fun ⟨j, ys⟩ => [ow 26 3 encIt A cap ys]) (fun ⟨j, ys⟩ => [ownB b (cellsB 73 [.map (some m)]), mp ekS evC m g, itF fp l]) (fun ⟨j, ys⟩ => j) (i, xs) (⟨Nat.le_refl _, hxs2, rfl⟩) ⟨rfl, rfl, rfl, rfl, rfl, rfl, trivial⟩ ?_
    rintro ⟨j, ys⟩ ⟨hj, hye, hin⟩
    dsimp only [List.cons_append, List.nil_append]
    have hyl : ys.length = l.length := by rw [hye, mid_len P _ x j (by omega)]; simp only [List.length_drop]; omega
    have hys : ∀ u ∈ ys, u ∈ l := fun u hu => hml u (by rw [hye] at hu; exact hu)
    have hAn : A ≠ none := by obtain ⟨g0, h0, _⟩ := ow_shape hO (by rintro rfl; simp at hx); rw [h0]; simp
    have hyx : xs.length = ys.length := hxl.trans hyl.symm
    rw [hyx]
    refine cj_seq (cj_seq ?_)
    refine cj_draw (by kernel_rfl) (by kernel_rfl) ?_
    refine gj_step (y_move rfl) rfl rfl rfl (gj_step (y_move rfl) rfl rfl rfl (gj_step (y_gtr rfl rfl) rfl rfl rfl (gj_step (y_move rfl) rfl rfl rfl (?_))))
    refine gj_g 12 21 33 rfl rfl rfl rfl (fun hg21 => gj_yes rfl rfl rfl (y_move rfl) rfl rfl (gj_yes rfl rfl rfl (y_move rfl) rfl rfl (gj_yes rfl rfl rfl (y_move rfl) rfl rfl (gj_yes rfl rfl rfl (y_ixR (reads_ow encIt_len) Tryz.underlying24 Tryz.sizeOf26 rfl rfl (⟨by have := hg21; simp only [sxb] at this; omega, by have := hg21; simp only [sxb] at this; omega⟩)) rfl rfl (gj_yes rfl rfl rfl (y_ldW (reads_ow encIt_len) Tryz.isAgg26 Tryz.sizeOf26 rfl (geq default (by have := hg21; simp only [sxb] at this; omega)) (fun _ => rfl)) rfl rfl (gj_yes rfl rfl rfl (y_move rfl) rfl rfl (gj_yes rfl rfl rfl (y_move rfl) rfl rfl (gj_yes rfl rfl rfl (y_sub rfl rfl (by omega)) rfl rfl (gj_yes rfl rfl rfl (y_ixR (reads_ow encIt_len) Tryz.underlying24 Tryz.sizeOf26 rfl rfl (⟨by have := hg21; simp only [sxb] at this; omega, by have := hg21; simp only [sxb] at this; omega⟩)) rfl rfl (gj_yes rfl rfl rfl (y_ldW (reads_ow encIt_len) Tryz.isAgg26 Tryz.sizeOf26 rfl (geq default (by have := hg21; simp only [sxb] at this; omega)) (fun _ => rfl)) rfl rfl (gj_yes rfl rfl rfl (y_callV Tryz.call93 rfl rfl (fun w hp => by
      have hj0 := hg21
      simp only [sxb] at hj0
      exact k_cmpcl _ _ b m g w hp.bs hp.mpS.1 (hp.mpS (b := m) (ek := ekS) (ev := evC) (l := g)).2 (fun r hr => (hgg r hr).mono (hp.grow0 hw0 hF)) (it_good hp (.tail _ (.tail _ (.head _))) _ (hys _ (memD (by omega)))) (it_good hp (.tail _ (.tail _ (.head _))) _ (hys _ (memD (by omega)))) (hso _ (hys _ (memD (by omega)))) (hso _ (hys _ (memD (by omega)))))) rfl rfl (gj_yes rfl rfl rfl (y_lss rfl rfl) rfl rfl (gj_nil rfl))))))))))))) ?_
    refine gj_step (y_and rfl rfl rfl) rfl rfl rfl (?_)
    refine gj_nil ?_
    refine ej_th ?_
    refine cj_cond rfl (fun h34 => ?_) (fun h34 => ?_)
    · have h34b := h34
      try simp only [sxb] at h34
      rw [Bool.and_eq_true, decide_eq_true_eq] at h34b
      obtain ⟨q, rfl⟩ : ∃ q, j = q + 1 := ⟨j - 1, by omega⟩
      obtain ⟨y, hy⟩ : ∃ y, P[q]? = some y := ⟨_, List.getElem?_eq_getElem (by omega)⟩
      have hxm : ys[((q + 1 : Nat) : Int).toNat]? = some x := by rw [show ((q + 1 : Nat) : Int).toNat = q + 1 by omega, hye]; exact mid_get P _ x (q + 1) (by omega)
      have hym : ys[(((q + 1 : Nat) : Int) - 1).toNat]? = some y := by rw [show (((q + 1 : Nat) : Int) - 1).toNat = q by omega, hye]; exact mid_get2 P _ x y q hy
      have hc := h34b.2
      rw [List.getD_eq_getElem?_getD, hxm, List.getD_eq_getElem?_getD, hym] at hc
      have hlt2 : ltV g x y = true := by rw [cmpS_neg] at hc; exact hc
      have hin2 : insAt (ltV g) P x q = insAt (ltV g) P x i := by rw [← hin, insAt_step _ P x y q hy hlt2]
      have hsw : (ys.set (q + 1) y).set ((q : Nat) : Int).toNat x = P.take q ++ x :: (P.drop q ++ l.drop (i + 1)) := by rw [hye]; exact swap_nb P _ x y q hy
      refine cj_skip (ej_th (cj_seq (cj_block ?_)))
      refine cj_plan 18 (by kernel_rfl) (by kernel_rfl) ?_
      refine pl_y 0 rfl (y_move rfl) rfl rfl rfl rfl (by kernel_rfl) ?_
      refine pl_y 1 rfl (y_move rfl) rfl rfl rfl rfl (by kernel_rfl) ?_
      refine pl_y 2 rfl (y_move rfl) rfl rfl rfl rfl (by kernel_rfl) ?_
      refine pl_y 3 rfl (y_move rfl) rfl rfl rfl rfl (by kernel_rfl) ?_
      refine pl_y 4 rfl (y_sub rfl rfl (by omega)) rfl rfl rfl rfl (by kernel_rfl) ?_
      refine pl_y 5 rfl (y_move rfl) rfl rfl rfl rfl (by kernel_rfl) ?_
      refine pl_y 6 rfl (y_move rfl) rfl rfl rfl rfl (by kernel_rfl) ?_
      refine pl_y 7 rfl (y_sub rfl rfl (by omega)) rfl rfl rfl rfl (by kernel_rfl) ?_
      refine pl_y 8 rfl (y_ix Tryz.underlying24 Tryz.sizeOf26 rfl rfl ⟨by omega, by omega⟩ hAn) rfl rfl rfl rfl (by kernel_rfl) ?_
      refine pl_y 9 rfl (y_ldW (reads_ow encIt_len) Tryz.isAgg26 Tryz.sizeOf26 rfl hym (fun _ => rfl)) rfl rfl rfl rfl (by kernel_rfl) ?_
      refine pl_y 10 rfl (y_move rfl) rfl rfl rfl rfl (by kernel_rfl) ?_
      refine pl_y 11 rfl (y_move rfl) rfl rfl rfl rfl (by kernel_rfl) ?_
      refine pl_y 12 rfl (y_ix Tryz.underlying24 Tryz.sizeOf26 rfl rfl ⟨by omega, by omega⟩ hAn) rfl rfl rfl rfl (by kernel_rfl) ?_
      refine pl_y 13 rfl (y_ldW (reads_ow encIt_len) Tryz.isAgg26 Tryz.sizeOf26 rfl hxm (fun _ => rfl)) rfl rfl rfl rfl (by kernel_rfl) ?_
      refine pl_y 14 rfl (y_ix Tryz.underlying24 Tryz.sizeOf26 rfl rfl ⟨by omega, by omega⟩ hAn) rfl rfl rfl rfl (by kernel_rfl) ?_
      refine pl_w1 15 (by kernel_rfl) rfl rfl (pl_fire rfl rfl rfl (by kernel_rfl) ?_)
      refine oj_storeE (i := q + 1) (u := y) rfl rfl rfl rfl Tryz.sizeOf26 (fun _ => rfl) (by first | omega | (simp only [List.length_set]; omega) | (simp; omega)) ?_
      refine oj_nil ?_
      refine ej_pl (lt_w (by kernel_rfl) (lt_w (by kernel_rfl) (lt_y (y_ix Tryz.underlying24 Tryz.sizeOf26 rfl rfl ⟨by omega, by omega⟩ hAn) rfl (lt_y (y_move rfl) rfl (lt_y (y_move rfl) rfl (lt_w (by kernel_rfl) (lt_w (by kernel_rfl) (lt_w (by kernel_rfl) (lt_w (by kernel_rfl) (lt_w (by kernel_rfl) (lt_y (y_sub rfl rfl (by omega)) rfl (lt_y (y_move rfl) rfl (lt_y (y_move rfl) rfl (lt_w (by kernel_rfl) (lt_w (by kernel_rfl) (lt_nil)))))))))))))))) ?_
      refine pl_y 16 rfl (y_ix Tryz.underlying24 Tryz.sizeOf26 rfl rfl ⟨by omega, by omega⟩ hAn) rfl rfl rfl rfl (by kernel_rfl) ?_
      refine pl_w1 17 (by kernel_rfl) rfl rfl (pl_fire rfl rfl rfl (by kernel_rfl) ?_)
      refine oj_storeE (i := (((q + 1 : Nat) : Int) - 1).toNat) (u := x) rfl rfl rfl rfl Tryz.sizeOf26 (fun _ => rfl) (by first | omega | (simp only [List.length_set]; omega) | (simp; omega)) ?_
      refine oj_nil ?_
      refine ej_pl (lt_w (by kernel_rfl) (lt_w (by kernel_rfl) (lt_w (by kernel_rfl) (lt_w (by kernel_rfl) (lt_w (by kernel_rfl) (lt_w (by kernel_rfl) (lt_w (by kernel_rfl) (lt_w (by kernel_rfl) (lt_w (by kernel_rfl) (lt_w (by kernel_rfl) (lt_w (by kernel_rfl) (lt_w (by kernel_rfl) (lt_w (by kernel_rfl) (lt_w (by kernel_rfl) (lt_w (by kernel_rfl) (lt_w (by kernel_rfl) (lt_nil))))))))))))))))) ?_
      refine pl_end (by kernel_rfl) ?_
      refine ej_blk (ej_th ?_)
      refine cj_regionG (gj_step (y_move rfl) rfl rfl rfl (gj_step (y_sub rfl rfl (by omega)) rfl rfl rfl (gj_step (y_assign rfl) rfl rfl rfl (gj_nil ?_))))
      rw [← hyx]
      rw [show (((q + 1 : Nat) : Int) - 1) = (q : Int) by omega]
      exact ej_nx (q, (ys.set (q + 1) y).set ((q : Nat) : Int).toNat x) (by simp only; omega) ⟨by simp only; omega, hsw, hin2⟩ ⟨rfl, rfl, rfl, rfl, rfl, rfl, trivial⟩
    · have h34b := h34
      try simp only [sxb] at h34
      have hfin : ys = isort (ltV g) [] (l.take (i + 1)) ++ l.drop (i + 1) := by
        rw [List.take_add_one, hx]
        show _ = isort (ltV g) [] (l.take i ++ [x]) ++ _
        rw [isort_append, ← hP, hPl, ← hin, hye]
        rcases Nat.eq_zero_or_pos j with hj0 | hj0
        · subst hj0; rfl
        · obtain ⟨q, rfl⟩ : ∃ q, j = q + 1 := ⟨j - 1, by omega⟩
          obtain ⟨y, hy⟩ : ∃ y, P[q]? = some y := ⟨_, List.getElem?_eq_getElem (by omega)⟩
          have hxm : ys[((q + 1 : Nat) : Int).toNat]? = some x := by rw [show ((q + 1 : Nat) : Int).toNat = q + 1 by omega, hye]; exact mid_get P _ x (q + 1) (by omega)
          have hym : ys[(((q + 1 : Nat) : Int) - 1).toNat]? = some y := by rw [show (((q + 1 : Nat) : Int) - 1).toNat = q by omega, hye]; exact mid_get2 P _ x y q hy
          rw [decide_eq_true (show (0 : Int) < ((q + 1 : Nat) : Int) by omega), Bool.true_and, List.getD_eq_getElem?_getD, hxm, List.getD_eq_getElem?_getD, hym] at h34b
          have hlt2 : ltV g x y = false := by rw [cmpS_neg] at h34b; exact h34b
          rw [insAt_stop _ P x y q hy hlt2]
          simp only [List.append_assoc, List.cons_append]
      refine cj_exit (ej_then_exit (ej_then_exit (ej_blk_hit (ej_blk (ej_th ?_)))))
      refine cj_regionG (gj_step (y_move rfl) rfl rfl rfl (gj_step (y_add rfl rfl (by omega)) rfl rfl rfl (gj_step (y_assign rfl) rfl rfl rfl (gj_nil ?_))))
      rw [← hyx, hxl]
      exact ej_nx (i + 1, ys) (by simp only; omega) ⟨by omega, hfin⟩ ⟨rfl, rfl, rfl, rfl, rfl, trivial⟩
  · have h14b := h14
    try simp only [sxb] at h14
    have hfe : xs = isort (ltV g) [] l := by rw [hxs, List.take_of_length_le (by omega), List.drop_of_length_le (by omega), List.append_nil]
    refine cj_exit (ej_then_exit (ej_then_exit (ej_blk_hit ?_)))
    exact ej_end0 rfl Tryz.results113 (fun w' hp => ⟨rfl, hp.mutO, by rw [← hfe]; exact hp.owP⟩)

end Go.Proofs.YtlfbghkcfmcnlaaGreatDoor
namespace Go.Proofs.YtlfbghkcfmcnlaaGreatDoor
open Go.Sx Go.RowKit
set_option maxRecDepth 20000
theorem k_stable (l : List ItemV) (A : Option Addr) (cap : Nat) (b m : Nat) (g : List (ByteArray × ClassV)) (hn6 : l.length ≤ 6) (w : World) (hO : (ow 26 3 encIt A cap (l)).P w) (hlt : ∀ i, (ow 26 3 encIt A cap (l)).fp i → i < w.heap.size) (w0 : World) (hw0 : Grow w0 w) (hgg : ∀ p ∈ g, GoodC w0 p.2) (hw0f : ∀ i, (ow 26 3 encIt A cap (l)).fp i → w0.heap.size ≤ i) (fp : Nat → Prop) (hit : (itF fp l).P w) (hfp : ∀ i, fp i → i < w.heap.size ∧ ¬ (ow 26 3 encIt A cap (l)).fp i) (hb : (ownB b (cellsB 73 [.map (some m)])).P w) (hbn : ¬ (ow 26 3 encIt A cap (l)).fp b) (hM : (mp ekS evC m g).P w) (hbl : m < w.heap.size) (hmn : ¬ (ow 26 3 encIt A cap (l)).fp m) (hso : ∀ x ∈ l, SortI g x) : Calls Tryz.prog 105 #[.slice A l.length cap, .int .i64 l.length, .func (.func 93) #[] #[.pointer (some ⟨b, 0, none⟩)]] w (fun e w' => e = .returned (.tuple #[]) ∧ Mut (ow 26 3 encIt A cap (l)) w w' ∧ (ow 26 3 encIt A cap (isort (ltV g) [] l)).P w') := by
  have hF : ∀ j, j < w0.heap.size → j < w.heap.size ∧ ¬ (ow 26 3 encIt A cap l).fp j := fun j h => ⟨Nat.lt_of_lt_of_le h hw0.size, fun e => by have := hw0f j e; omega⟩
  refine enter_ow (args := [.slice A l.length cap, .int .i64 l.length, .func (.func 93) #[] #[.pointer (some ⟨b, 0, none⟩)]]) [ownB b (cellsB 73 [.map (some m)]), mp ekS evC m g, itF fp l] Tryz.func105 rfl (by rw [Tryz.ntmps105]; simp) hO hlt (fun f hf => by simp only [List.mem_cons, List.mem_nil_iff, or_false] at hf; rcases hf with rfl | rfl | rfl; exact ⟨hb, fun i hi => by have : i = b := hi; subst this; exact ⟨(Array.getElem?_eq_some_iff.1 hb).1, hbn⟩⟩; exact ⟨hM, fun i hi => by have : i = m := hi; subst this; exact ⟨hbl, hmn⟩⟩; exact ⟨hit, hfp⟩) ?_
  refine cj_seq ?_
  refine cj_regionG (gj_step (y_assign rfl) rfl rfl rfl (gj_nil ?_))
  refine ej_th (cj_seq ?_)
  refine cj_regionG (gj_step (y_move rfl) rfl rfl rfl (gj_step (y_assign rfl) rfl rfl rfl (gj_step (y_assign rfl) rfl rfl rfl (gj_nil ?_))))
  refine ej_th (cj_seq (cj_block ?_))
  refine cj_lpic (X := Unit) [(0, _), (1, _), (2, _), (6, _)] (fun u => True) (fun u => [(7, .int .i64 0), (8, .int .i64 20)]) (fun u => 0) () (trivial) ⟨rfl, rfl, rfl, rfl, rfl, rfl, trivial⟩ ?_
  rintro u -
  dsimp only [List.cons_append, List.nil_append]
  refine cj_seq (cj_seq ?_)
  refine cj_regionG (gj_step (y_move rfl) rfl rfl rfl (gj_step (y_move rfl) rfl rfl rfl (gj_step (y_leq rfl rfl) rfl rfl rfl (gj_nil ?_))))
  refine ej_th ?_
  refine cj_cond rfl (fun h13 => ?_) (fun h13 => ?_)
  · simp only [sxb] at h13; omega
  · have h13b := h13
    try simp only [sxb] at h13
    refine cj_exit (ej_then_exit (ej_then_exit (ej_blk_hit (ej_th (cj_seq (cj_region ?_))))))
    refine oj_step (y_move rfl) rfl rfl rfl ?_
    refine oj_step (y_move rfl) rfl rfl rfl ?_
    refine oj_step (y_move rfl) rfl rfl rfl ?_
    refine oj_step (y_move rfl) rfl rfl rfl ?_
    refine oj_mutOw (us' := isort (ltV g) [] l) Tryz.call113 rfl (fun w1 hp hP => by have h := k_insort l A cap b m g hn6 w1 hP hp.owL w0 (hp.grow0 hw0 hF) hgg hw0f fp (hp.shared _ (.tail _ (.tail _ (.head _)))).1 (fun i hi => ⟨(hp.shared _ (.tail _ (.tail _ (.head _)))).2.1 i hi, (hp.shared _ (.tail _ (.tail _ (.head _)))).2.2 _ (.head _) i hi⟩) hp.bs ((hp.shared _ (.head _)).2.2 _ (.head _) b rfl) hp.mpS.1 (hp.mpS (b := m) (ek := ekS) (ev := evC) (l := g)).2 ((hp.shared _ (.tail _ (.head _))).2.2 _ (.head _) m rfl) hso; exact h) rfl ?_
    refine oj_nil ?_
    refine ej_th (cj_block ?_)
    refine cj_lpic (X := Unit) [(0, _), (1, _), (2, _)] (fun u => True) (fun u => [(6, .int .i64 20), (7, .int .i64 0), (8, .int .i64 20)]) (fun u => 0) () (trivial) ⟨rfl, rfl, rfl, rfl, rfl, rfl, trivial⟩ ?_
    rintro u -
    dsimp only [List.cons_append, List.nil_append]
    refine cj_seq (cj_seq ?_)
    refine cj_regionG (gj_step (y_move rfl) rfl rfl rfl (gj_step (y_move rfl) rfl rfl rfl (gj_step (y_lss rfl rfl) rfl rfl rfl (gj_nil ?_))))
    refine ej_th ?_
    refine cj_cond rfl (fun h30 => ?_) (fun h30 => ?_)
    · simp only [sxb] at h30; omega
    · have h30b := h30
      try simp only [sxb] at h30
      refine cj_exit (ej_then_exit (ej_then_exit (ej_blk_hit ?_)))
      exact ej_end0 rfl Tryz.results105 (fun w' hp => ⟨rfl, hp.mutO, hp.owP⟩)

theorem k_sortS (l : List ItemV) (A : Option Addr) (cap : Nat) (b m : Nat) (g : List (ByteArray × ClassV)) (hn6 : l.length ≤ 6) (w : World) (hO : (ow 26 3 encIt A cap (l)).P w) (hlt : ∀ i, (ow 26 3 encIt A cap (l)).fp i → i < w.heap.size) (w0 : World) (hw0 : Grow w0 w) (hgg : ∀ p ∈ g, GoodC w0 p.2) (hw0f : ∀ i, (ow 26 3 encIt A cap (l)).fp i → w0.heap.size ≤ i) (fp : Nat → Prop) (hit : (itF fp l).P w) (hfp : ∀ i, fp i → i < w.heap.size ∧ ¬ (ow 26 3 encIt A cap (l)).fp i) (hb : (ownB b (cellsB 73 [.map (some m)])).P w) (hbn : ¬ (ow 26 3 encIt A cap (l)).fp b) (hM : (mp ekS evC m g).P w) (hbl : m < w.heap.size) (hmn : ¬ (ow 26 3 encIt A cap (l)).fp m) (hso : ∀ x ∈ l, SortI g x) : Calls Tryz.prog 92 #[.slice A l.length cap, .func (.func 93) #[] #[.pointer (some ⟨b, 0, none⟩)]] w (fun e w' => e = .returned (.tuple #[]) ∧ Mut (ow 26 3 encIt A cap (l)) w w' ∧ (ow 26 3 encIt A cap (isort (ltV g) [] l)).P w') := by
  have hF : ∀ j, j < w0.heap.size → j < w.heap.size ∧ ¬ (ow 26 3 encIt A cap l).fp j := fun j h => ⟨Nat.lt_of_lt_of_le h hw0.size, fun e => by have := hw0f j e; omega⟩
  refine enter_ow (args := [.slice A l.length cap, .func (.func 93) #[] #[.pointer (some ⟨b, 0, none⟩)]]) [ownB b (cellsB 73 [.map (some m)]), mp ekS evC m g, itF fp l] Tryz.func92 rfl (by rw [Tryz.ntmps92]; simp) hO hlt (fun f hf => by simp only [List.mem_cons, List.mem_nil_iff, or_false] at hf; rcases hf with rfl | rfl | rfl; exact ⟨hb, fun i hi => by have : i = b := hi; subst this; exact ⟨(Array.getElem?_eq_some_iff.1 hb).1, hbn⟩⟩; exact ⟨hM, fun i hi => by have : i = m := hi; subst this; exact ⟨hbl, hmn⟩⟩; exact ⟨hit, hfp⟩) ?_
  refine cj_region ?_
  refine oj_step (y_move rfl) rfl rfl rfl ?_
  refine oj_step (y_move rfl) rfl rfl rfl ?_
  refine oj_step (y_lenA Tryz.underlying24 rfl) rfl rfl rfl ?_
  refine oj_step (y_move rfl) rfl rfl rfl ?_
  refine oj_mutOw (us' := isort (ltV g) [] l) Tryz.call105 rfl (fun w1 hp hP => by have h := k_stable l A cap b m g hn6 w1 hP hp.owL w0 (hp.grow0 hw0 hF) hgg hw0f fp (hp.shared _ (.tail _ (.tail _ (.head _)))).1 (fun i hi => ⟨(hp.shared _ (.tail _ (.tail _ (.head _)))).2.1 i hi, (hp.shared _ (.tail _ (.tail _ (.head _)))).2.2 _ (.head _) i hi⟩) hp.bs ((hp.shared _ (.head _)).2.2 _ (.head _) b rfl) hp.mpS.1 (hp.mpS (b := m) (ek := ekS) (ev := evC) (l := g)).2 ((hp.shared _ (.tail _ (.head _))).2.2 _ (.head _) m rfl) hso; exact h) rfl ?_
  refine oj_nil ?_
  exact ej_end0 rfl Tryz.results92 (fun w' hp => ⟨rfl, hp.mutO, hp.owP⟩)

theorem k_Clone (l : List ByteArray) (A : Option Addr) (c : Nat) (w : World) (hl : Rd w 1 enStr A l) (h8 : l.length ≤ 100) : Calls Tryz.prog 91 #[.slice A l.length c] w (fun e w' => ∃ B d, e = .returned (.slice B l.length d) ∧ Grow w w' ∧ Res w w' 1 enStr B l) := by
  refine enter_pure (args := [.slice A l.length c]) [sl (fun b => b < w.heap.size) 1 enStr A l] Tryz.func91 rfl (by rw [Tryz.ntmps91]; simp) (fun g hg => by simp at hg; subst hg; exact ⟨hl, fun _ h => h⟩) ?_
  refine cj_seq ?_
  refine cj_regionG (gj_step (y_assign rfl) rfl rfl rfl (gj_nil ?_))
  refine ej_th (cj_seq (cj_seq ?_))
  refine cj_regionG (gj_step (y_move rfl) rfl rfl rfl (gj_step (y_eqlNil Tryz.underlying23 rfl rfl) rfl rfl rfl (gj_nil ?_)))
  refine ej_th ?_
  refine cj_cond rfl (fun h4 => ?_) (fun h4 => ?_)
  · have h4b := h4
    try simp only [sxb] at h4
    have hl0 : l = [] := by
      cases l with
      | nil => rfl
      | cons x r => exact absurd (by cases A with | none => rfl | some a => cases h4) (hl.ne (by simp))
    refine cj_seq ?_
    refine cj_regionG (gj_step (y_assign rfl) rfl rfl rfl (gj_nil ?_))
    refine ej_th (cj_ret (ej_then_ret ?_))
    subst hl0
    exact ej_ret1 rfl Tryz.results91 rfl (fun w' hp => ⟨none, 0, rfl, hp.below, Res.nil⟩)
  · have h4b := h4
    try simp only [sxb] at h4
    refine cj_skip (ej_th (cj_seq (cj_region ?_)))
    refine oj_buildSlice (cs := []) [] Tryz.underlying23 Tryz.sizeOf9 Tryz.zeroValue9 rfl rfl (by kernel_rfl) (by kernel_rfl) rfl (fun b5 => ?_)
    refine oj_litOw (b := b5) (e := 9) (c := 0) (sz := 1) (enc := enStr) [] rfl rfl rfl (by unfold maxLen; simp) ?_
    refine oj_step (y_move rfl) rfl rfl rfl ?_
    refine oj_append (xs := ([] : List ByteArray)) (c := 0) el23 (fun _ => rfl) enStr_one rfl rfl rfl (reads_sl) (by unfold maxLen; simp only [List.length_nil]; omega) (by simp only [List.length_nil]; omega) rfl (fun A7 c7 => ?_)
    refine oj_step (y_assign rfl) rfl rfl rfl ?_
    refine oj_nil ?_
    refine ej_th (cj_ret ?_)
    exact ej_ret1 rfl Tryz.results91 rfl (fun w' hp => ⟨A7, c7, by simp, hp.below, by have := hp.res (A := A7) (fun _ => rfl) (by unfold maxLen; simp only [List.nil_append]; omega); simpa using this⟩)

end Go.Proofs.YtlfbghkcfmcnlaaGreatDoor
namespace Go.Proofs.YtlfbghkcfmcnlaaGreatDoor
open Go.Sx Go.RowKit
set_option maxRecDepth 20000
set_option maxHeartbeats 2000000 in
theorem k_sort1 (x : ItemV) (b : Nat) (g : List (ByteArray × ClassV)) (w : World) (hM : (mp ekS evC b g).P w) (hbl : b < w.heap.size) (hgg : ∀ p ∈ g, GoodC w p.2) (hx : GoodI w x) (ho : OkT g x.pl) (hcn : cntT x.pl ≤ 24) (ih : ∀ p ∈ x.parts, ∀ (w1 : World), Grow w w1 → Calls Tryz.prog 77 #[.map (some b), evI p] w1 (fun e w' => ∃ y : ItemV, e = .returned (evI y) ∧ Grow w1 w' ∧ y.pl = sortT g p.pl ∧ GoodF (fun i => w1.heap.size ≤ i ∧ i < w'.heap.size) w' y)) : Calls Tryz.prog 77 #[.map (some b), evI x] w (fun e w' => ∃ y : ItemV, e = .returned (evI y) ∧ Grow w w' ∧ y.pl = sortT g x.pl ∧ GoodF (fun i => w.heap.size ≤ i ∧ i < w'.heap.size) w' y) := by
  have hl1 := hx.rs.len
  have hl2 := hx.rp.len
  have hp6 : x.parts.length ≤ 6 := by have := ho.few; rw [pl_parts, List.length_map] at this; exact this
  obtain ⟨c, hgc, hsl, ht8, htn⟩ := ho.get
  rw [pl_says] at hsl
  refine enter_pure (args := [.map (some b), evI x]) [mp ekS evC b g] Tryz.func77 rfl (by rw [Tryz.ntmps77]; simp) (fun f hf => by simp at hf; subst hf; exact ⟨hM, fun i hi => by have : i = b := hi; subst this; exact hbl⟩) ?_
  refine cj_seq (cj_region ?_)
  refine oj_box rfl rfl rfl (fun b2 => ?_)
  refine oj_box rfl rfl rfl (fun b3 => ?_)
  refine oj_alloc Tryz.zeroValue26 rfl rfl (fun b4 => ?_)
  refine oj_nil ?_
  refine ej_th (cj_seq ?_)
  refine cj_rd hx.rs (fun _ h => h) ?_
  refine cj_plan 8 (by kernel_rfl) (by kernel_rfl) ?_
  refine pl_y 0 rfl (y_fa0 fa26_0 rfl) rfl rfl rfl rfl (by kernel_rfl) ?_
  refine pl_y 1 rfl (y_load1 Tryz.isAgg9 rfl rfl) rfl rfl rfl rfl (by kernel_rfl) ?_
  refine pl_y 2 rfl (y_fa fa26_1 rfl) rfl rfl rfl rfl (by kernel_rfl) ?_
  refine pl_y 3 rfl (y_load1 Tryz.isAgg23 rfl rfl) rfl rfl rfl rfl (by kernel_rfl) ?_
  refine pl_w2 4 6 (by kernel_rfl) rfl rfl (pl_fire rfl rfl rfl (by kernel_rfl) ?_) (pl_fire rfl rfl rfl (by kernel_rfl) ?_)
  · refine oj_callS (fun A c => .slice A x.says.length c) 1 enStr x.says Tryz.call91 rfl (fun w hp => k_Clone x.says x.As x.cs w hp.rd (by omega)) rfl (fun A12 c12 fp12 hfp12 => ?_)
    refine oj_nil ?_
    refine ej_pl (lt_w (by kernel_rfl) (lt_y (y_fa fa26_1 rfl) rfl (lt_y (y_load1 Tryz.isAgg9 rfl rfl) rfl (lt_y (y_fa0 fa26_0 rfl) rfl (lt_nil))))) ?_
    refine pl_y 5 rfl (y_build (cs := [.string x.cls, .slice A12 x.says.length c12, .slice none 0 0]) st26 rfl (by kernel_rfl)) rfl rfl rfl rfl (by kernel_rfl) ?_
    refine pl_w1 6 (by kernel_rfl) rfl rfl (pl_fire rfl rfl rfl (by kernel_rfl) ?_)
    refine oj_alloc Tryz.zeroValue26 rfl rfl (fun b5 => ?_)
    refine oj_nil ?_
    refine ej_pl (lt_y (y_build (cs := [.string x.cls, .slice A12 x.says.length c12, .slice none 0 0]) st26 rfl (by kernel_rfl)) rfl (lt_y (y_load1 Tryz.isAgg23 rfl rfl) rfl (lt_y (y_fa fa26_1 rfl) rfl (lt_y (y_load1 Tryz.isAgg9 rfl rfl) rfl (lt_y (y_fa0 fa26_0 rfl) rfl (lt_nil)))))) ?_
    refine pl_w1 7 (by kernel_rfl) rfl rfl (pl_fire rfl rfl rfl (by kernel_rfl) ?_)
    refine oj_store rfl rfl rfl rfl Tryz.sizeOf26 rfl ?_
    refine oj_nil ?_
    refine ej_pl (lt_w (by kernel_rfl) (lt_w (by kernel_rfl) (lt_w (by kernel_rfl) (lt_w (by kernel_rfl) (lt_w (by kernel_rfl) (lt_nil)))))) ?_
    refine pl_end (by kernel_rfl) ?_
    refine ej_th (cj_seq (cj_seq ?_))
    refine cj_regionG (gj_step (y_fa fa26_2 rfl) rfl rfl rfl (gj_step (y_load1 Tryz.isAgg24 rfl rfl) rfl rfl rfl (gj_step (y_lenA Tryz.underlying24 rfl) rfl rfl rfl (gj_step (y_move rfl) rfl rfl rfl (gj_nil ?_)))))
    refine ej_th (cj_block ?_)
    refine cj_ownNil 26 3 encIt ?_
    refine cj_rd hx.rp (fun _ h => h) ?_
    refine cj_addS (itF (fun _ => False) []) (fun w hp => ⟨fun z hz => (by cases hz), fun i hi => hi.elim⟩) ?_
    refine cj_eqO [ow 26 3 encIt none 0 ([] : List ItemV), ownB b5 (cellsB 26 [.string x.cls, .slice A12 x.says.length c12, .slice none ([] : List ItemV).length 0]), ownB b4 (cellsB 26 [.string ⟨#[]⟩, .slice none 0 0, .slice none 0 0]), ownB b3 (cellsB 26 [.string x.cls, .slice x.As x.says.length x.cs, .slice x.Ap x.parts.length x.cp]), ownB b2 (cellsB 73 [.map (some b)])] rfl ?_
    refine cj_lpi (X := Nat × Option Addr × Nat × List ItemV × (Nat → Prop)) [(2, _), (4, _), (5, _), (15, _), (16, _)] (fun ⟨k, A1, c1, ys, fp⟩ => k ≤ x.parts.length ∧ ys.map ItemV.pl = (x.parts.take k).map (fun p => sortT g p.pl) ∧ ∀ i, fp i → w.heap.size ≤ i) (fun ⟨k, A1, c1, ys, fp⟩ => [(17, .int .i64 k)]) (fun ⟨k, A1, c1, ys, fp⟩ => [ow 26 3 encIt A1 c1 ys, ownB b5 (cellsB 26 [.string x.cls, .slice A12 x.says.length c12, .slice A1 ys.length c1]), ownB b4 (cellsB 26 [.string ⟨#[]⟩, .slice none 0 0, .slice none 0 0]), ownB b3 (cellsB 26 [.string x.cls, .slice x.As x.says.length x.cs, .slice x.Ap x.parts.length x.cp]), ownB b2 (cellsB 73 [.map (some b)])]) (fun ⟨k, A1, c1, ys, fp⟩ => [itF fp ys, sl (fun b => b < w.heap.size) 3 encIt x.Ap x.parts, sl fp12 1 enStr A12 x.says, mp ekS evC b g]) (fun ⟨k, A1, c1, ys, fp⟩ => x.parts.length - k) (0, none, 0, [], fun _ => False) (⟨Nat.zero_le _, rfl, fun i h => h.elim⟩) ⟨rfl, rfl, rfl, rfl, rfl, rfl, trivial⟩ ?_
    rintro ⟨k, A1, c1, ys, fp⟩ ⟨hk, hys, hfn⟩
    dsimp only [List.cons_append, List.nil_append]
    have hxl : ys.length = k := by have := congrArg List.length hys; simp only [List.length_map, List.length_take] at this; omega
    have hmS : itF fp ys ∈ [itF fp ys, sl (fun b => b < w.heap.size) 3 encIt x.Ap x.parts, sl fp12 1 enStr A12 x.says, mp ekS evC b g] := List.mem_cons_self ..
    refine cj_seq ?_
    refine cj_regionG (gj_step (y_lss rfl rfl) rfl rfl rfl (gj_nil ?_))
    refine ej_th (cj_seq ?_)
    refine cj_cond rfl (fun h18 => ?_) (fun h18 => ?_)
    · have h18b := h18
      try simp only [sxb] at h18
      obtain ⟨q, hq⟩ : ∃ q, x.parts[k]? = some q := ⟨_, List.getElem?_eq_getElem (by omega)⟩
      refine cj_skip (ej_th (cj_seq (cj_block (cj_seq (cj_region ?_)))))
      refine oj_step (y_ixR (reads_sl) Tryz.underlying24 Tryz.sizeOf26 rfl rfl (⟨by omega, by omega⟩)) rfl rfl rfl ?_
      refine oj_step (y_ldW (reads_sl) Tryz.isAgg26 Tryz.sizeOf26 rfl (hq) (fun _ => rfl)) rfl rfl rfl ?_
      refine oj_alloc Tryz.zeroValue26 rfl rfl (fun b7 => ?_)
      refine oj_store rfl rfl rfl rfl Tryz.sizeOf26 rfl ?_
      refine oj_nil ?_
      refine ej_th ?_
      refine cj_plan 9 (by kernel_rfl) (by kernel_rfl) ?_
      refine pl_y 0 rfl (y_fa fa26_2 rfl) rfl rfl rfl rfl (by kernel_rfl) ?_
      refine pl_y 1 rfl (y_load1 Tryz.isAgg24 rfl rfl) rfl rfl rfl rfl (by kernel_rfl) ?_
      refine pl_y 2 rfl (y_load1 Tryz.isAgg73 rfl rfl) rfl rfl rfl rfl (by kernel_rfl) ?_
      refine pl_y 3 rfl (y_loadN Tryz.isAgg26 Tryz.sizeOf26 rfl) rfl rfl rfl rfl (by kernel_rfl) ?_
      refine pl_w1 4 (by kernel_rfl) rfl rfl (pl_fire rfl rfl rfl (by kernel_rfl) ?_)
      refine oj_call (X := { z : ItemV × Nat × Nat // z.1.pl = sortT g q.pl ∧ w.heap.size ≤ z.2.1 }) (fun z => evI z.1.1) (fun _ => []) (fun z => [itF (fun i => z.1.2.1 ≤ i ∧ i < z.1.2.2) [z.1.1]]) Tryz.call77 rfl (fun w1 hp => (ih q (List.mem_of_getElem? hq) w1 hp.below).mono fun e w2 ⟨y, he, hg, hy, hG⟩ => ⟨⟨(y, w1.heap.size, w2.heap.size), hy, hp.size⟩, he, hg, by simp, by simp, fun f hf => by
        rw [List.mem_singleton.1 hf]
        exact ⟨fun z hz => by rw [List.mem_singleton.1 hz]; exact hG, fun i hi => ⟨hi.1, hi.2, by simp⟩⟩⟩) rfl ?_
      rintro ⟨⟨y, n1, n2⟩, hy, hn1⟩
      dsimp only [List.cons_append, List.nil_append] at hy hn1 ⊢
      refine oj_nil ?_
      refine ej_pl (lt_w (by kernel_rfl) (lt_w (by kernel_rfl) (lt_y (y_load1 Tryz.isAgg24 rfl rfl) rfl (lt_y (y_fa fa26_2 rfl) rfl (lt_nil))))) ?_
      refine pl_w1 5 (by kernel_rfl) rfl rfl (pl_fire rfl rfl rfl (by kernel_rfl) ?_)
      refine oj_buildSlice (cs := [.string y.cls, .slice y.As y.says.length y.cs, .slice y.Ap y.parts.length y.cp]) [.string ⟨#[]⟩, .slice none 0 0, .slice none 0 0] Tryz.underlying24 Tryz.sizeOf26 Tryz.zeroValue26 rfl rfl (by kernel_rfl) (by kernel_rfl) rfl (fun b26 => ?_)
      refine oj_nil ?_
      refine ej_pl (lt_y (y_loadN Tryz.isAgg26 Tryz.sizeOf26 rfl) rfl (lt_y (y_load1 Tryz.isAgg73 rfl rfl) rfl (lt_y (y_load1 Tryz.isAgg24 rfl rfl) rfl (lt_y (y_fa fa26_2 rfl) rfl (lt_nil))))) ?_
      refine pl_w1 6 (by kernel_rfl) rfl rfl (pl_fire rfl rfl rfl (by kernel_rfl) ?_)
      refine oj_append  el24 (fun _ => rfl) encIt_one rfl rfl rfl (reads_lit [y] (fun _ => rfl) rfl) (by unfold maxLen; simp only [List.length_cons, List.length_nil]; omega) (by simp only [List.length_cons, List.length_nil]; omega) rfl (fun A27 c27 => ?_)
      refine oj_nil ?_
      refine ej_pl (lt_y (y_loadN Tryz.isAgg26 Tryz.sizeOf26 rfl) rfl (lt_y (y_load1 Tryz.isAgg73 rfl rfl) rfl (lt_w (by kernel_rfl) (lt_y (y_fa fa26_2 rfl) rfl (lt_nil))))) ?_
      refine pl_y 7 rfl (y_fa fa26_2 rfl) rfl rfl rfl rfl (by kernel_rfl) ?_
      refine pl_w1 8 (by kernel_rfl) rfl rfl (pl_fire rfl rfl rfl (by kernel_rfl) ?_)
      refine oj_store rfl rfl rfl rfl Tryz.sizeOf24 rfl ?_
      refine oj_nil ?_
      refine ej_pl (lt_w (by kernel_rfl) (lt_w (by kernel_rfl) (lt_w (by kernel_rfl) (lt_w (by kernel_rfl) (lt_w (by kernel_rfl) (lt_nil)))))) ?_
      refine pl_end (by kernel_rfl) ?_
      refine ej_blk (ej_th ?_)
      refine cj_regionG (gj_step (y_add rfl rfl (by omega)) rfl rfl rfl (gj_step (y_move rfl) rfl rfl rfl (gj_nil ?_)))
      refine ej_addS (itF (fun i => fp i ∨ (n1 ≤ i ∧ i < n2)) (ys ++ [y])) (fun w1 hp => ?_) ?_
      · have h1 := hp.shared (itF fp ys) (by simp)
        have h2 := hp.shared (itF (fun i => n1 ≤ i ∧ i < n2) [y]) (by simp)
        refine ⟨fun z hz => ?_, fun i hi => ?_⟩
        · rcases List.mem_append.1 hz with hz | hz
          · exact (h1.1 z hz).fp (fun _ h => .inl h)
          · exact (h2.1 z hz).fp (fun _ h => .inr h)
        · rcases hi with hi | hi
          · exact ⟨h1.2.1 i hi, fun g hg => h1.2.2 g hg i hi⟩
          · exact ⟨h2.2.1 i hi, fun g hg => h2.2.2 g hg i hi⟩
      exact ej_nx (k + 1, A27, c27, ys ++ [y], fun i => fp i ∨ (n1 ≤ i ∧ i < n2)) (by simp only; omega) ⟨by first | omega | (simp only; omega), by simp only [List.map_append, List.map_cons, List.map_nil]; rw [hys, List.take_add_one, hq, hy]; simp, fun i hi => by rcases hi with hi | hi; exact hfn i hi; omega⟩ ⟨rfl, rfl, rfl, rfl, rfl, rfl, trivial⟩
    · have h18b := h18
      try simp only [sxb] at h18
      have hn6 : ys.length ≤ 6 := by have := congrArg List.length hys; simp only [List.length_map, List.length_take] at this; omega
      rw [List.take_of_length_le (by omega)] at hys
      have hso : ∀ z ∈ ys, SortI g z := by
        intro z hz
        have hz2 : z.pl ∈ x.parts.map (fun p => sortT g p.pl) := by rw [← hys]; exact List.mem_map.2 ⟨z, hz, rfl⟩
        obtain ⟨p, hp, he⟩ := List.mem_map.1 hz2
        have hpo : p.pl ∈ x.pl.parts := by rw [pl_parts]; exact List.mem_map.2 ⟨p, hp, rfl⟩
        refine ⟨by rw [← he]; exact sort_ok (ho.pt _ hpo), ?_⟩
        rw [← he, sort_cnt]
        have h1 := cntL_mem _ _ hpo
        have h2 := cntT_eq x.pl
        omega
      refine cj_exit (ej_then_exit (ej_then_exit (ej_blk_hit (ej_th (cj_seq (cj_region ?_))))))
      refine oj_step (y_fa fa26_2 rfl) rfl rfl rfl ?_
      refine oj_step (y_load1 Tryz.isAgg24 rfl rfl) rfl rfl rfl ?_
      refine oj_step (y_makeFunc rfl rfl) rfl rfl rfl ?_
      refine oj_mutOw (us' := isort (ltV g) [] ys) Tryz.call92 rfl (fun w1 hp hP => by have h := k_sortS ys A1 c1 b2 b g hn6 w1 hP hp.owL w hp.below hgg (fun i hi => Nat.le_of_not_lt ((hp.own _ (HasOw.mem (xs := ys))).2 i hi).2) fp (hp.shared _ hmS).1 (fun i hi => ⟨(hp.shared _ hmS).2.1 i hi, (hp.shared _ hmS).2.2 _ (HasOw.mem (xs := ys)) i hi⟩) hp.bo (ow_not hP (hp.bo (b := b2)) (by decide)) hp.mpS.1 (hp.mpS (b := b) (ek := ekS) (ev := evC) (l := g)).2 ((hp.shared _ (HasMpS.mem (b := b) (ek := ekS) (ev := evC) (l := g))).2.2 _ (HasOw.mem (xs := ys)) b rfl) hso; exact h) rfl ?_
      refine oj_nil ?_
      refine ej_th (cj_seq (cj_region ?_))
      refine oj_step (y_loadN Tryz.isAgg26 Tryz.sizeOf26 rfl) rfl rfl rfl ?_
      refine oj_store rfl rfl rfl rfl Tryz.sizeOf26 rfl ?_
      refine oj_nil ?_
      refine ej_th (cj_ret ?_)
      refine ej_retC1 rfl Tryz.results77 rfl (y_loadN Tryz.isAgg26 Tryz.sizeOf26 rfl) (fun w' hp => ⟨.mk x.cls A12 c12 x.says A1 c1 (isort (ltV g) [] ys), ?_, hp.below, ?_, ?_⟩)
      · show _ = Ending.returned (.agg #[.string x.cls, .slice A12 x.says.length c12, .slice A1 (isort (ltV g) [] ys).length c1])
        rw [isort_len, List.length_nil, Nat.zero_add]
      · rw [pl_eq, sortT_eq, pl_cls, pl_says, pl_parts]
        show IT.mk x.cls x.says ((isort (ltV g) [] ys).map ItemV.pl) = _
        rw [show (isort (ltV g) [] ys).map ItemV.pl = isort (ltT g) [] (ys.map ItemV.pl) from isort_map ItemV.pl (ltT g) ys [], hys, List.map_map]; rfl
      · have h1 := hp.shared (itF fp ys) hmS
        refine .mk (sl_fp (hp.shared (sl fp12 1 enStr A12 x.says) (by simp)).1 (fun i hi => ⟨hfp12 i hi, (hp.shared (sl fp12 1 enStr A12 x.says) (by simp)).2.1 i hi⟩)) (hp.res (A := A1) (fun _ => rfl) (by rw [isort_len, List.length_nil]; unfold maxLen; omega)) hx.nm hx.sm (fun p hp2 => ?_)
        have hp3 : p ∈ ys := by
          have := (isort_mem (ltV g) ys [] p).1 hp2
          rcases this with h | h
          · cases h
          · exact h
        exact (h1.1 p hp3).fp (fun i hi => ⟨hfn i hi, h1.2.1 i hi⟩)
  · refine oj_alloc Tryz.zeroValue26 rfl rfl (fun b5 => ?_)
    refine oj_nil ?_
    refine ej_pl (lt_y (y_load1 Tryz.isAgg23 rfl rfl) rfl (lt_y (y_fa fa26_1 rfl) rfl (lt_y (y_load1 Tryz.isAgg9 rfl rfl) rfl (lt_y (y_fa0 fa26_0 rfl) rfl (lt_nil))))) ?_
    refine pl_w1 4 (by kernel_rfl) rfl rfl (pl_fire rfl rfl rfl (by kernel_rfl) ?_)
    refine oj_callS (fun A c => .slice A x.says.length c) 1 enStr x.says Tryz.call91 rfl (fun w hp => k_Clone x.says x.As x.cs w hp.rd (by omega)) rfl (fun A12 c12 fp12 hfp12 => ?_)
    refine oj_nil ?_
    refine ej_pl (lt_w (by kernel_rfl) (lt_y (y_fa fa26_1 rfl) rfl (lt_y (y_load1 Tryz.isAgg9 rfl rfl) rfl (lt_y (y_fa0 fa26_0 rfl) rfl (lt_nil))))) ?_
    refine pl_y 5 rfl (y_build (cs := [.string x.cls, .slice A12 x.says.length c12, .slice none 0 0]) st26 rfl (by kernel_rfl)) rfl rfl rfl rfl (by kernel_rfl) ?_
    refine pl_w1 7 (by kernel_rfl) rfl rfl (pl_fire rfl rfl rfl (by kernel_rfl) ?_)
    refine oj_store rfl rfl rfl rfl Tryz.sizeOf26 rfl ?_
    refine oj_nil ?_
    refine ej_pl (lt_w (by kernel_rfl) (lt_w (by kernel_rfl) (lt_w (by kernel_rfl) (lt_w (by kernel_rfl) (lt_w (by kernel_rfl) (lt_nil)))))) ?_
    refine pl_end (by kernel_rfl) ?_
    refine ej_th (cj_seq (cj_seq ?_))
    refine cj_regionG (gj_step (y_fa fa26_2 rfl) rfl rfl rfl (gj_step (y_load1 Tryz.isAgg24 rfl rfl) rfl rfl rfl (gj_step (y_lenA Tryz.underlying24 rfl) rfl rfl rfl (gj_step (y_move rfl) rfl rfl rfl (gj_nil ?_)))))
    refine ej_th (cj_block ?_)
    refine cj_ownNil 26 3 encIt ?_
    refine cj_rd hx.rp (fun _ h => h) ?_
    refine cj_addS (itF (fun _ => False) []) (fun w hp => ⟨fun z hz => (by cases hz), fun i hi => hi.elim⟩) ?_
    refine cj_eqO [ow 26 3 encIt none 0 ([] : List ItemV), ownB b5 (cellsB 26 [.string x.cls, .slice A12 x.says.length c12, .slice none ([] : List ItemV).length 0]), ownB b4 (cellsB 26 [.string ⟨#[]⟩, .slice none 0 0, .slice none 0 0]), ownB b3 (cellsB 26 [.string x.cls, .slice x.As x.says.length x.cs, .slice x.Ap x.parts.length x.cp]), ownB b2 (cellsB 73 [.map (some b)])] rfl ?_
    refine cj_lpi (X := Nat × Option Addr × Nat × List ItemV × (Nat → Prop)) [(2, _), (4, _), (5, _), (15, _), (16, _)] (fun ⟨k, A1, c1, ys, fp⟩ => k ≤ x.parts.length ∧ ys.map ItemV.pl = (x.parts.take k).map (fun p => sortT g p.pl) ∧ ∀ i, fp i → w.heap.size ≤ i) (fun ⟨k, A1, c1, ys, fp⟩ => [(17, .int .i64 k)]) (fun ⟨k, A1, c1, ys, fp⟩ => [ow 26 3 encIt A1 c1 ys, ownB b5 (cellsB 26 [.string x.cls, .slice A12 x.says.length c12, .slice A1 ys.length c1]), ownB b4 (cellsB 26 [.string ⟨#[]⟩, .slice none 0 0, .slice none 0 0]), ownB b3 (cellsB 26 [.string x.cls, .slice x.As x.says.length x.cs, .slice x.Ap x.parts.length x.cp]), ownB b2 (cellsB 73 [.map (some b)])]) (fun ⟨k, A1, c1, ys, fp⟩ => [itF fp ys, sl (fun b => b < w.heap.size) 3 encIt x.Ap x.parts, sl fp12 1 enStr A12 x.says, mp ekS evC b g]) (fun ⟨k, A1, c1, ys, fp⟩ => x.parts.length - k) (0, none, 0, [], fun _ => False) (⟨Nat.zero_le _, rfl, fun i h => h.elim⟩) ⟨rfl, rfl, rfl, rfl, rfl, rfl, trivial⟩ ?_
    rintro ⟨k, A1, c1, ys, fp⟩ ⟨hk, hys, hfn⟩
    dsimp only [List.cons_append, List.nil_append]
    have hxl : ys.length = k := by have := congrArg List.length hys; simp only [List.length_map, List.length_take] at this; omega
    have hmS : itF fp ys ∈ [itF fp ys, sl (fun b => b < w.heap.size) 3 encIt x.Ap x.parts, sl fp12 1 enStr A12 x.says, mp ekS evC b g] := List.mem_cons_self ..
    refine cj_seq ?_
    refine cj_regionG (gj_step (y_lss rfl rfl) rfl rfl rfl (gj_nil ?_))
    refine ej_th (cj_seq ?_)
    refine cj_cond rfl (fun h18 => ?_) (fun h18 => ?_)
    · have h18b := h18
      try simp only [sxb] at h18
      obtain ⟨q, hq⟩ : ∃ q, x.parts[k]? = some q := ⟨_, List.getElem?_eq_getElem (by omega)⟩
      refine cj_skip (ej_th (cj_seq (cj_block (cj_seq (cj_region ?_)))))
      refine oj_step (y_ixR (reads_sl) Tryz.underlying24 Tryz.sizeOf26 rfl rfl (⟨by omega, by omega⟩)) rfl rfl rfl ?_
      refine oj_step (y_ldW (reads_sl) Tryz.isAgg26 Tryz.sizeOf26 rfl (hq) (fun _ => rfl)) rfl rfl rfl ?_
      refine oj_alloc Tryz.zeroValue26 rfl rfl (fun b7 => ?_)
      refine oj_store rfl rfl rfl rfl Tryz.sizeOf26 rfl ?_
      refine oj_nil ?_
      refine ej_th ?_
      refine cj_plan 9 (by kernel_rfl) (by kernel_rfl) ?_
      refine pl_y 0 rfl (y_fa fa26_2 rfl) rfl rfl rfl rfl (by kernel_rfl) ?_
      refine pl_y 1 rfl (y_load1 Tryz.isAgg24 rfl rfl) rfl rfl rfl rfl (by kernel_rfl) ?_
      refine pl_y 2 rfl (y_load1 Tryz.isAgg73 rfl rfl) rfl rfl rfl rfl (by kernel_rfl) ?_
      refine pl_y 3 rfl (y_loadN Tryz.isAgg26 Tryz.sizeOf26 rfl) rfl rfl rfl rfl (by kernel_rfl) ?_
      refine pl_w1 4 (by kernel_rfl) rfl rfl (pl_fire rfl rfl rfl (by kernel_rfl) ?_)
      refine oj_call (X := { z : ItemV × Nat × Nat // z.1.pl = sortT g q.pl ∧ w.heap.size ≤ z.2.1 }) (fun z => evI z.1.1) (fun _ => []) (fun z => [itF (fun i => z.1.2.1 ≤ i ∧ i < z.1.2.2) [z.1.1]]) Tryz.call77 rfl (fun w1 hp => (ih q (List.mem_of_getElem? hq) w1 hp.below).mono fun e w2 ⟨y, he, hg, hy, hG⟩ => ⟨⟨(y, w1.heap.size, w2.heap.size), hy, hp.size⟩, he, hg, by simp, by simp, fun f hf => by
        rw [List.mem_singleton.1 hf]
        exact ⟨fun z hz => by rw [List.mem_singleton.1 hz]; exact hG, fun i hi => ⟨hi.1, hi.2, by simp⟩⟩⟩) rfl ?_
      rintro ⟨⟨y, n1, n2⟩, hy, hn1⟩
      dsimp only [List.cons_append, List.nil_append] at hy hn1 ⊢
      refine oj_nil ?_
      refine ej_pl (lt_w (by kernel_rfl) (lt_w (by kernel_rfl) (lt_y (y_load1 Tryz.isAgg24 rfl rfl) rfl (lt_y (y_fa fa26_2 rfl) rfl (lt_nil))))) ?_
      refine pl_w1 5 (by kernel_rfl) rfl rfl (pl_fire rfl rfl rfl (by kernel_rfl) ?_)
      refine oj_buildSlice (cs := [.string y.cls, .slice y.As y.says.length y.cs, .slice y.Ap y.parts.length y.cp]) [.string ⟨#[]⟩, .slice none 0 0, .slice none 0 0] Tryz.underlying24 Tryz.sizeOf26 Tryz.zeroValue26 rfl rfl (by kernel_rfl) (by kernel_rfl) rfl (fun b26 => ?_)
      refine oj_nil ?_
      refine ej_pl (lt_y (y_loadN Tryz.isAgg26 Tryz.sizeOf26 rfl) rfl (lt_y (y_load1 Tryz.isAgg73 rfl rfl) rfl (lt_y (y_load1 Tryz.isAgg24 rfl rfl) rfl (lt_y (y_fa fa26_2 rfl) rfl (lt_nil))))) ?_
      refine pl_w1 6 (by kernel_rfl) rfl rfl (pl_fire rfl rfl rfl (by kernel_rfl) ?_)
      refine oj_append  el24 (fun _ => rfl) encIt_one rfl rfl rfl (reads_lit [y] (fun _ => rfl) rfl) (by unfold maxLen; simp only [List.length_cons, List.length_nil]; omega) (by simp only [List.length_cons, List.length_nil]; omega) rfl (fun A27 c27 => ?_)
      refine oj_nil ?_
      refine ej_pl (lt_y (y_loadN Tryz.isAgg26 Tryz.sizeOf26 rfl) rfl (lt_y (y_load1 Tryz.isAgg73 rfl rfl) rfl (lt_w (by kernel_rfl) (lt_y (y_fa fa26_2 rfl) rfl (lt_nil))))) ?_
      refine pl_y 7 rfl (y_fa fa26_2 rfl) rfl rfl rfl rfl (by kernel_rfl) ?_
      refine pl_w1 8 (by kernel_rfl) rfl rfl (pl_fire rfl rfl rfl (by kernel_rfl) ?_)
      refine oj_store rfl rfl rfl rfl Tryz.sizeOf24 rfl ?_
      refine oj_nil ?_
      refine ej_pl (lt_w (by kernel_rfl) (lt_w (by kernel_rfl) (lt_w (by kernel_rfl) (lt_w (by kernel_rfl) (lt_w (by kernel_rfl) (lt_nil)))))) ?_
      refine pl_end (by kernel_rfl) ?_
      refine ej_blk (ej_th ?_)
      refine cj_regionG (gj_step (y_add rfl rfl (by omega)) rfl rfl rfl (gj_step (y_move rfl) rfl rfl rfl (gj_nil ?_)))
      refine ej_addS (itF (fun i => fp i ∨ (n1 ≤ i ∧ i < n2)) (ys ++ [y])) (fun w1 hp => ?_) ?_
      · have h1 := hp.shared (itF fp ys) (by simp)
        have h2 := hp.shared (itF (fun i => n1 ≤ i ∧ i < n2) [y]) (by simp)
        refine ⟨fun z hz => ?_, fun i hi => ?_⟩
        · rcases List.mem_append.1 hz with hz | hz
          · exact (h1.1 z hz).fp (fun _ h => .inl h)
          · exact (h2.1 z hz).fp (fun _ h => .inr h)
        · rcases hi with hi | hi
          · exact ⟨h1.2.1 i hi, fun g hg => h1.2.2 g hg i hi⟩
          · exact ⟨h2.2.1 i hi, fun g hg => h2.2.2 g hg i hi⟩
      exact ej_nx (k + 1, A27, c27, ys ++ [y], fun i => fp i ∨ (n1 ≤ i ∧ i < n2)) (by simp only; omega) ⟨by first | omega | (simp only; omega), by simp only [List.map_append, List.map_cons, List.map_nil]; rw [hys, List.take_add_one, hq, hy]; simp, fun i hi => by rcases hi with hi | hi; exact hfn i hi; omega⟩ ⟨rfl, rfl, rfl, rfl, rfl, rfl, trivial⟩
    · have h18b := h18
      try simp only [sxb] at h18
      have hn6 : ys.length ≤ 6 := by have := congrArg List.length hys; simp only [List.length_map, List.length_take] at this; omega
      rw [List.take_of_length_le (by omega)] at hys
      have hso : ∀ z ∈ ys, SortI g z := by
        intro z hz
        have hz2 : z.pl ∈ x.parts.map (fun p => sortT g p.pl) := by rw [← hys]; exact List.mem_map.2 ⟨z, hz, rfl⟩
        obtain ⟨p, hp, he⟩ := List.mem_map.1 hz2
        have hpo : p.pl ∈ x.pl.parts := by rw [pl_parts]; exact List.mem_map.2 ⟨p, hp, rfl⟩
        refine ⟨by rw [← he]; exact sort_ok (ho.pt _ hpo), ?_⟩
        rw [← he, sort_cnt]
        have h1 := cntL_mem _ _ hpo
        have h2 := cntT_eq x.pl
        omega
      refine cj_exit (ej_then_exit (ej_then_exit (ej_blk_hit (ej_th (cj_seq (cj_region ?_))))))
      refine oj_step (y_fa fa26_2 rfl) rfl rfl rfl ?_
      refine oj_step (y_load1 Tryz.isAgg24 rfl rfl) rfl rfl rfl ?_
      refine oj_step (y_makeFunc rfl rfl) rfl rfl rfl ?_
      refine oj_mutOw (us' := isort (ltV g) [] ys) Tryz.call92 rfl (fun w1 hp hP => by have h := k_sortS ys A1 c1 b2 b g hn6 w1 hP hp.owL w hp.below hgg (fun i hi => Nat.le_of_not_lt ((hp.own _ (HasOw.mem (xs := ys))).2 i hi).2) fp (hp.shared _ hmS).1 (fun i hi => ⟨(hp.shared _ hmS).2.1 i hi, (hp.shared _ hmS).2.2 _ (HasOw.mem (xs := ys)) i hi⟩) hp.bo (ow_not hP (hp.bo (b := b2)) (by decide)) hp.mpS.1 (hp.mpS (b := b) (ek := ekS) (ev := evC) (l := g)).2 ((hp.shared _ (HasMpS.mem (b := b) (ek := ekS) (ev := evC) (l := g))).2.2 _ (HasOw.mem (xs := ys)) b rfl) hso; exact h) rfl ?_
      refine oj_nil ?_
      refine ej_th (cj_seq (cj_region ?_))
      refine oj_step (y_loadN Tryz.isAgg26 Tryz.sizeOf26 rfl) rfl rfl rfl ?_
      refine oj_store rfl rfl rfl rfl Tryz.sizeOf26 rfl ?_
      refine oj_nil ?_
      refine ej_th (cj_ret ?_)
      refine ej_retC1 rfl Tryz.results77 rfl (y_loadN Tryz.isAgg26 Tryz.sizeOf26 rfl) (fun w' hp => ⟨.mk x.cls A12 c12 x.says A1 c1 (isort (ltV g) [] ys), ?_, hp.below, ?_, ?_⟩)
      · show _ = Ending.returned (.agg #[.string x.cls, .slice A12 x.says.length c12, .slice A1 (isort (ltV g) [] ys).length c1])
        rw [isort_len, List.length_nil, Nat.zero_add]
      · rw [pl_eq, sortT_eq, pl_cls, pl_says, pl_parts]
        show IT.mk x.cls x.says ((isort (ltV g) [] ys).map ItemV.pl) = _
        rw [show (isort (ltV g) [] ys).map ItemV.pl = isort (ltT g) [] (ys.map ItemV.pl) from isort_map ItemV.pl (ltT g) ys [], hys, List.map_map]; rfl
      · have h1 := hp.shared (itF fp ys) hmS
        refine .mk (sl_fp (hp.shared (sl fp12 1 enStr A12 x.says) (by simp)).1 (fun i hi => ⟨hfp12 i hi, (hp.shared (sl fp12 1 enStr A12 x.says) (by simp)).2.1 i hi⟩)) (hp.res (A := A1) (fun _ => rfl) (by rw [isort_len, List.length_nil]; unfold maxLen; omega)) hx.nm hx.sm (fun p hp2 => ?_)
        have hp3 : p ∈ ys := by
          have := (isort_mem (ltV g) ys [] p).1 hp2
          rcases this with h | h
          · cases h
          · exact h
        exact (h1.1 p hp3).fp (fun i hi => ⟨hfn i hi, h1.2.1 i hi⟩)

theorem k_sorted {w0 : World} {b : Nat} {g : List (ByteArray × ClassV)} {x : ItemV} (hx : GoodI w0 x) : ∀ (w : World), Grow w0 w → (mp ekS evC b g).P w → b < w.heap.size → (∀ p ∈ g, GoodC w p.2) → OkT g x.pl → cntT x.pl ≤ 24 → Calls Tryz.prog 77 #[.map (some b), evI x] w (fun e w' => ∃ y : ItemV, e = .returned (evI y) ∧ Grow w w' ∧ y.pl = sortT g x.pl ∧ GoodF (fun i => w.heap.size ≤ i ∧ i < w'.heap.size) w' y) := by
  induction hx with
  | @mk x hs hp hn hm hr ih =>
    intro w hg hM hbl hgg ho hc
    refine k_sort1 x b g w hM hbl hgg ((GoodI.mk hs hp hn hm hr).mono hg) ho hc (fun p hpm w1 hg1 => ?_)
    have hpo : p.pl ∈ x.pl.parts := by rw [pl_parts]; exact List.mem_map.2 ⟨p, hpm, rfl⟩
    have hcp : cntT p.pl ≤ 24 := by have h1 := cntL_mem _ _ hpo; have h2 := cntT_eq x.pl; omega
    exact ih p hpm w1 (grow_trans hg hg1) ((mp ekS evC b g).stab (fun i hi => hg1.block i (by have : i = b := hi; omega)) hM) (Nat.lt_of_lt_of_le hbl hg1.size) (fun q hq => (hgg q hq).mono hg1) (ho.pt _ hpo) hcp

end Go.Proofs.YtlfbghkcfmcnlaaGreatDoor
namespace Go.Proofs.YtlfbghkcfmcnlaaGreatDoor
open Go.Sx Go.RowKit
set_option maxRecDepth 20000
theorem ask_gram {l : List ClassV} {xs : List ItemV} (h : askIOk l xs = true) : gramOk l = true := by
  simp only [askIOk, Bool.and_eq_true] at h; exact h.1

theorem k_CheckG (l : List ClassV) (A : Option Addr) (c : Nat) (w : World) (hl : Rd w 4 encCl A l) (hgc : ∀ c ∈ l, GoodC w c) : Calls Tryz.prog 12 #[.slice A l.length c] w (fun e w' => e = .returned (.int .i64 (gramE l)) ∧ Grow w w') := by
  refine enter_pure (args := [.slice A l.length c]) [sl (fun b => b < w.heap.size) 4 encCl A l] Tryz.func12 rfl (by rw [Tryz.ntmps12]; simp) (fun g hg => by simp at hg; subst hg; exact ⟨hl, fun _ h => h⟩) ?_
  refine cj_seq ?_
  refine cj_regionG (gj_step (y_assign rfl) rfl rfl rfl (gj_nil ?_))
  refine ej_th (cj_seq (cj_region ?_))
  refine oj_step (y_move rfl) rfl rfl rfl ?_
  refine oj_call (X := Nat) (fun m => .tuple #[.map (bif gramOk l then some m else none), .int .i64 (gramE l)]) (fun _ => []) (fun _ => []) Tryz.call31 rfl (fun w hp => (k_grammarOf l A c w hp.rd (fun c hc => (hgc c hc).mono hp.below)).mono fun e w' ⟨m, he, hg, _⟩ => ⟨m, he, hg, by simp, by simp, by simp⟩) rfl (fun m7 => ?_)
  dsimp only [List.cons_append, List.nil_append]
  refine oj_step (y_move rfl) rfl rfl rfl ?_
  refine oj_step (y_extract rfl rfl) rfl rfl rfl ?_
  refine oj_step (y_extract rfl rfl) rfl rfl rfl ?_
  refine oj_step (y_assign rfl) rfl rfl rfl ?_
  refine oj_step (y_assign rfl) rfl rfl rfl ?_
  refine oj_nil ?_
  refine ej_th (cj_seq ?_)
  refine cj_regionG (gj_step (y_move rfl) rfl rfl rfl (gj_step (y_assign rfl) rfl rfl rfl (gj_nil ?_)))
  refine ej_th (cj_ret ?_)
  exact ej_ret1 rfl Tryz.results12 rfl (fun w' hp => ⟨rfl, hp.below⟩)

theorem k_Check (l : List ClassV) (A : Option Addr) (c : Nat) (x : ItemV) (w : World) (hl : Rd w 4 encCl A l) (hgc : ∀ c ∈ l, GoodC w c) (hx : GoodI w x) : Calls Tryz.prog 13 #[.slice A l.length c, evI x] w (fun e w' => e = .returned (.int .i64 (askIE l [x])) ∧ Grow w w') := by
  refine enter_pure (args := [.slice A l.length c, evI x]) [sl (fun b => b < w.heap.size) 4 encCl A l] Tryz.func13 rfl (by rw [Tryz.ntmps13]; simp) (fun g hg => by simp at hg; subst hg; exact ⟨hl, fun _ h => h⟩) ?_
  refine cj_seq (cj_region ?_)
  refine oj_box rfl rfl rfl (fun b3 => ?_)
  refine oj_step (y_assign rfl) rfl rfl rfl ?_
  refine oj_nil ?_
  refine ej_th (cj_seq (cj_region ?_))
  refine oj_step (y_move rfl) rfl rfl rfl ?_
  refine oj_step (y_loadN Tryz.isAgg26 Tryz.sizeOf26 rfl) rfl rfl rfl ?_
  refine oj_buildSlice (cs := [.string x.cls, .slice x.As x.says.length x.cs, .slice x.Ap x.parts.length x.cp]) [.string ⟨#[]⟩, .slice none 0 0, .slice none 0 0] Tryz.underlying24 Tryz.sizeOf26 Tryz.zeroValue26 rfl rfl (by kernel_rfl) (by kernel_rfl) rfl (fun b10 => ?_)
  refine oj_litOw (b := b10) (e := 26) (c := 1) (sz := 3) (enc := encIt) [x] rfl rfl rfl (by unfold maxLen; simp) ?_
  refine oj_call (X := Nat) (fun m => .tuple #[.map (bif askIOk l [x] then some m else none), .int .i64 (askIE l [x])]) (fun _ => []) (fun m => bif askIOk l [x] then [mp ekS evC m (gramM l)] else []) Tryz.call27 rfl (fun w hp => by
    have h := k_pasked l A c [x] (some ⟨b10, 0, none⟩) 1 w hp.rd (fun c hc => (hgc c hc).mono hp.below) (hp.rdO (A := some ⟨b10, 0, none⟩) (fun _ => rfl) (by unfold maxLen; simp)) (fun y hy => by
      rw [List.mem_singleton.1 hy]
      exact hx.mono hp.below)
    exact h.mono fun e w' ⟨m, he, hg, hm⟩ => ⟨m, he, hg, by simp, by simp, fun f hf => by
      cases hok : askIOk l [x] with
      | false => rw [hok] at hf; cases hf
      | true =>
        rw [hok] at hf
        rw [List.mem_singleton.1 hf]
        have h3 := hm hok
        exact ⟨h3.1, fun i hi => by have : i = m := hi; subst this; exact ⟨h3.2.1, h3.2.2, by simp⟩⟩⟩) rfl (fun m11 => ?_)
  dsimp only [List.cons_append, List.nil_append]
  refine oj_step (y_move rfl) rfl rfl rfl ?_
  refine oj_step (y_extract rfl rfl) rfl rfl rfl ?_
  refine oj_step (y_extract rfl rfl) rfl rfl rfl ?_
  refine oj_step (y_assign rfl) rfl rfl rfl ?_
  refine oj_step (y_assign rfl) rfl rfl rfl ?_
  refine oj_nil ?_
  refine ej_th (cj_seq ?_)
  refine cj_regionG (gj_step (y_move rfl) rfl rfl rfl (gj_step (y_assign rfl) rfl rfl rfl (gj_nil ?_)))
  refine ej_th (cj_ret ?_)
  exact ej_ret1 rfl Tryz.results13 rfl (fun w' hp => ⟨rfl, hp.below⟩)

theorem k_Print (l : List ClassV) (A : Option Addr) (c : Nat) (x : ItemV) (w : World) (hl : Rd w 4 encCl A l) (hgc : ∀ c ∈ l, GoodC w c) (hx : GoodI w x) : Calls Tryz.prog 6 #[.slice A l.length c, evI x] w (fun e w' => e = .returned (.tuple #[.string (PrnT l x), .int .i64 (askIE l [x])]) ∧ Grow w w') := by
  refine enter_pure (args := [.slice A l.length c, evI x]) [sl (fun b => b < w.heap.size) 4 encCl A l] Tryz.func6 rfl (by rw [Tryz.ntmps6]; simp) (fun g hg => by simp at hg; subst hg; exact ⟨hl, fun _ h => h⟩) ?_
  refine cj_seq (cj_region ?_)
  refine oj_box rfl rfl rfl (fun b3 => ?_)
  refine oj_step (y_assign rfl) rfl rfl rfl ?_
  refine oj_step (y_assign rfl) rfl rfl rfl ?_
  refine oj_nil ?_
  refine ej_th (cj_seq (cj_region ?_))
  refine oj_step (y_move rfl) rfl rfl rfl ?_
  refine oj_step (y_loadN Tryz.isAgg26 Tryz.sizeOf26 rfl) rfl rfl rfl ?_
  refine oj_buildSlice (cs := [.string x.cls, .slice x.As x.says.length x.cs, .slice x.Ap x.parts.length x.cp]) [.string ⟨#[]⟩, .slice none 0 0, .slice none 0 0] Tryz.underlying24 Tryz.sizeOf26 Tryz.zeroValue26 rfl rfl (by kernel_rfl) (by kernel_rfl) rfl (fun b11 => ?_)
  refine oj_litOw (b := b11) (e := 26) (c := 1) (sz := 3) (enc := encIt) [x] rfl rfl rfl (by unfold maxLen; simp) ?_
  refine oj_call (X := Nat) (fun m => .tuple #[.map (bif askIOk l [x] then some m else none), .int .i64 (askIE l [x])]) (fun _ => []) (fun m => bif askIOk l [x] then [mp ekS evC m (gramM l)] else []) Tryz.call27 rfl (fun w hp => by
    have h := k_pasked l A c [x] (some ⟨b11, 0, none⟩) 1 w hp.rd (fun c hc => (hgc c hc).mono hp.below) (hp.rdO (A := some ⟨b11, 0, none⟩) (fun _ => rfl) (by unfold maxLen; simp)) (fun y hy => by
      rw [List.mem_singleton.1 hy]
      exact hx.mono hp.below)
    exact h.mono fun e w' ⟨m, he, hg, hm⟩ => ⟨m, he, hg, by simp, by simp, fun f hf => by
      cases hok : askIOk l [x] with
      | false => rw [hok] at hf; cases hf
      | true =>
        rw [hok] at hf
        rw [List.mem_singleton.1 hf]
        have h3 := hm hok
        exact ⟨h3.1, fun i hi => by have : i = m := hi; subst this; exact ⟨h3.2.1, h3.2.2, by simp⟩⟩⟩) rfl (fun m12 => ?_)
  dsimp only [List.cons_append, List.nil_append]
  refine oj_step (y_move rfl) rfl rfl rfl ?_
  refine oj_step (y_extract rfl rfl) rfl rfl rfl ?_
  refine oj_step (y_extract rfl rfl) rfl rfl rfl ?_
  refine oj_step (y_assign rfl) rfl rfl rfl ?_
  refine oj_step (y_assign rfl) rfl rfl rfl ?_
  refine oj_nil ?_
  refine ej_th (cj_seq (cj_seq ?_))
  refine cj_regionG (gj_step (y_move rfl) rfl rfl rfl (gj_step (y_neq rfl rfl) rfl rfl rfl (gj_nil ?_)))
  refine ej_th ?_
  refine cj_cond rfl (fun h16 => ?_) (fun h16 => ?_)
  · have h16b := h16
    try simp only [sxb] at h16
    have hno := askIE_no h16b
    refine cj_seq ?_
    refine cj_regionG (gj_step (y_move rfl) rfl rfl rfl (gj_step (y_assign rfl) rfl rfl rfl (gj_step (y_assign rfl) rfl rfl rfl (gj_nil ?_))))
    refine ej_th (cj_ret (ej_then_ret ?_))
    have hv : PrnT l x = ⟨#[]⟩ := by rw [PrnT, hno]; rfl
    exact ej_ret2 rfl Tryz.results6 rfl rfl (fun w' hp => ⟨by rw [hv], hp.below⟩)
  · have h16b := h16
    try simp only [sxb] at h16
    have hok := askIE_ok h16b
    obtain ⟨hoT, hcn⟩ := ask_T hok x (by simp)
    have hgO := ask_gram hok
    rw [hok]
    dsimp only [cond, List.cons_append, List.nil_append]
    refine cj_skip (ej_th (cj_seq ?_))
    refine cj_regionG ?_
    refine gj_step (y_move rfl) rfl rfl rfl (gj_step (y_loadN Tryz.isAgg26 Tryz.sizeOf26 rfl) rfl rfl rfl (?_))
    refine gj_step (y_call Tryz.call28 rfl (fun w hp => k_text x m12 (gramM l) w hp.mpS.1 (hp.mpS (b := m12) (ek := ekS) (ev := evC) (l := gramM l)).2 (fun p hp2 => (hgc p.2 (gramM_mem hp2)).mono hp.below) (hx.mono hp.below) hoT hcn)) rfl rfl rfl ?_
    refine gj_step (y_assign rfl) rfl rfl rfl (gj_step (y_assign rfl) rfl rfl rfl (?_))
    refine gj_nil ?_
    refine ej_th (cj_ret ?_)
    have hv : PrnT l x = txtT (gramM l) x.pl := by rw [PrnT, hok]; rfl
    have hz : askIE l [x] = 0 := by simpa using h16b
    exact ej_ret2 rfl Tryz.results6 rfl rfl (fun w' hp => ⟨by rw [hv, hz], hp.below⟩)

end Go.Proofs.YtlfbghkcfmcnlaaGreatDoor
namespace Go.Proofs.YtlfbghkcfmcnlaaGreatDoor
open Go.Sx Go.RowKit
set_option maxRecDepth 20000
theorem k_Sort (l : List ClassV) (A : Option Addr) (c : Nat) (x : ItemV) (w : World) (hl : Rd w 4 encCl A l) (hgc : ∀ c ∈ l, GoodC w c) (hx : GoodI w x) : Calls Tryz.prog 40 #[.slice A l.length c, evI x] w (fun e w' => ∃ y : ItemV, e = .returned (.tuple #[evI y, .int .i64 (askIE l [x])]) ∧ Grow w w' ∧ y.pl = SrtT l x ∧ GoodF (fun i => w.heap.size ≤ i ∧ i < w'.heap.size) w' y) := by
  refine enter_pure (args := [.slice A l.length c, evI x]) [sl (fun b => b < w.heap.size) 4 encCl A l] Tryz.func40 rfl (by rw [Tryz.ntmps40]; simp) (fun g hg => by simp at hg; subst hg; exact ⟨hl, fun _ h => h⟩) ?_
  refine cj_seq (cj_region ?_)
  refine oj_box rfl rfl rfl (fun b3 => ?_)
  refine oj_alloc Tryz.zeroValue26 rfl rfl (fun b4 => ?_)
  refine oj_step (y_assign rfl) rfl rfl rfl ?_
  refine oj_nil ?_
  refine ej_th (cj_seq (cj_region ?_))
  refine oj_step (y_move rfl) rfl rfl rfl ?_
  refine oj_step (y_loadN Tryz.isAgg26 Tryz.sizeOf26 rfl) rfl rfl rfl ?_
  refine oj_buildSlice (cs := [.string x.cls, .slice x.As x.says.length x.cs, .slice x.Ap x.parts.length x.cp]) [.string ⟨#[]⟩, .slice none 0 0, .slice none 0 0] Tryz.underlying24 Tryz.sizeOf26 Tryz.zeroValue26 rfl rfl (by kernel_rfl) (by kernel_rfl) rfl (fun b11 => ?_)
  refine oj_litOw (b := b11) (e := 26) (c := 1) (sz := 3) (enc := encIt) [x] rfl rfl rfl (by unfold maxLen; simp) ?_
  refine oj_call (X := Nat) (fun m => .tuple #[.map (bif askIOk l [x] then some m else none), .int .i64 (askIE l [x])]) (fun _ => []) (fun m => bif askIOk l [x] then [mp ekS evC m (gramM l)] else []) Tryz.call27 rfl (fun w hp => by
    have h := k_pasked l A c [x] (some ⟨b11, 0, none⟩) 1 w hp.rd (fun c hc => (hgc c hc).mono hp.below) (hp.rdO (A := some ⟨b11, 0, none⟩) (fun _ => rfl) (by unfold maxLen; simp)) (fun y hy => by
      rw [List.mem_singleton.1 hy]
      exact hx.mono hp.below)
    exact h.mono fun e w' ⟨m, he, hg, hm⟩ => ⟨m, he, hg, by simp, by simp, fun f hf => by
      cases hok : askIOk l [x] with
      | false => rw [hok] at hf; cases hf
      | true =>
        rw [hok] at hf
        rw [List.mem_singleton.1 hf]
        have h3 := hm hok
        exact ⟨h3.1, fun i hi => by have : i = m := hi; subst this; exact ⟨h3.2.1, h3.2.2, by simp⟩⟩⟩) rfl (fun m12 => ?_)
  dsimp only [List.cons_append, List.nil_append]
  refine oj_step (y_move rfl) rfl rfl rfl ?_
  refine oj_step (y_extract rfl rfl) rfl rfl rfl ?_
  refine oj_step (y_extract rfl rfl) rfl rfl rfl ?_
  refine oj_step (y_assign rfl) rfl rfl rfl ?_
  refine oj_step (y_assign rfl) rfl rfl rfl ?_
  refine oj_nil ?_
  refine ej_th (cj_seq (cj_seq ?_))
  refine cj_regionG (gj_step (y_move rfl) rfl rfl rfl (gj_step (y_neq rfl rfl) rfl rfl rfl (gj_nil ?_)))
  refine ej_th ?_
  refine cj_cond rfl (fun h16 => ?_) (fun h16 => ?_)
  · have h16b := h16
    try simp only [sxb] at h16
    have hno := askIE_no h16b
    refine cj_seq (cj_region ?_)
    refine oj_step (y_build st26 rfl rfl) rfl rfl rfl ?_
    refine oj_step (y_move rfl) rfl rfl rfl ?_
    refine oj_store rfl rfl rfl rfl Tryz.sizeOf26 rfl ?_
    refine oj_step (y_assign rfl) rfl rfl rfl ?_
    refine oj_nil ?_
    refine ej_th (cj_ret (ej_then_ret ?_))
    exact ej_retC2 rfl Tryz.results40 rfl (y_loadN Tryz.isAgg26 Tryz.sizeOf26 rfl) rfl (fun w' hp => ⟨.mk ⟨#[]⟩ none 0 [] none 0 [], rfl, hp.below, by rw [SrtT, hno]; rfl, .mk Res.nil Res.nil (by decide) (fun s hs => by cases hs) (fun p hp => by cases hp)⟩)
  · have h16b := h16
    try simp only [sxb] at h16
    have hok := askIE_ok h16b
    obtain ⟨hoT, hcn⟩ := ask_T hok x (by simp)
    have hgO := ask_gram hok
    rw [hok]
    dsimp only [cond, List.cons_append, List.nil_append]
    refine cj_skip (ej_th (cj_seq (cj_region ?_)))
    refine oj_step (y_move rfl) rfl rfl rfl ?_
    refine oj_step (y_loadN Tryz.isAgg26 Tryz.sizeOf26 rfl) rfl rfl rfl ?_
    refine oj_call (X := { z : ItemV × Nat × Nat // z.1.pl = sortT (gramM l) x.pl ∧ w.heap.size ≤ z.2.1 }) (fun z => evI z.1.1) (fun _ => []) (fun z => [itF (fun i => z.1.2.1 ≤ i ∧ i < z.1.2.2) [z.1.1]]) Tryz.call77 rfl (fun w1 hp => (k_sorted hx w1 hp.below hp.mpS.1 (hp.mpS (b := m12) (ek := ekS) (ev := evC) (l := gramM l)).2 (fun p hp2 => (hgc p.2 (gramM_mem hp2)).mono hp.below) hoT hcn).mono fun e w2 ⟨y, he, hg, hy, hG⟩ => ⟨⟨(y, w1.heap.size, w2.heap.size), hy, hp.size⟩, he, hg, by simp, by simp, fun f hf => by
      rw [List.mem_singleton.1 hf]
      exact ⟨fun z hz => by rw [List.mem_singleton.1 hz]; exact hG, fun i hi => ⟨hi.1, hi.2, by simp⟩⟩⟩) rfl ?_
    rintro ⟨⟨y, n1, n2⟩, hy, hn1⟩
    dsimp only [List.cons_append, List.nil_append] at hy hn1 ⊢
    refine oj_store rfl rfl rfl rfl Tryz.sizeOf26 rfl ?_
    refine oj_step (y_assign rfl) rfl rfl rfl ?_
    refine oj_nil ?_
    refine ej_th (cj_ret ?_)
    have hz : askIE l [x] = 0 := by simpa using h16b
    exact ej_retC2 rfl Tryz.results40 rfl (y_loadN Tryz.isAgg26 Tryz.sizeOf26 rfl) rfl (fun w' hp => ⟨y, by rw [hz], hp.below, by rw [SrtT, hok, hy]; rfl, ((hp.shared _ (.head _)).1 y (List.mem_cons_self ..)).fp (fun i hi => ⟨Nat.le_trans hn1 hi.1, (hp.shared _ (.head _)).2.1 i hi⟩)⟩)

set_option maxHeartbeats 1000000 in
theorem k_Count (l : List ClassV) (A : Option Addr) (c : Nat) (x : ItemV) (w : World) (hl : Rd w 4 encCl A l) (hgc : ∀ c ∈ l, GoodC w c) (hx : GoodI w x) : Calls Tryz.prog 39 #[.slice A l.length c, evI x] w (fun e w' => e = .returned (.tuple #[.int .i64 (CntI l x), .int .i64 (CntS l x), .int .i64 (askIE l [x])]) ∧ Grow w w') := by
  refine enter_pureM (args := [.slice A l.length c, evI x]) [sl (fun b => b < w.heap.size) 4 encCl A l] Tryz.func39 rfl (by rw [Tryz.ntmps39]; simp) (fun g hg => by simp at hg; subst hg; exact ⟨hl, fun _ h => h⟩) ?_
  refine cj_seq (cj_region ?_)
  refine oj_box rfl rfl rfl (fun b3 => ?_)
  refine oj_alloc Tryz.zeroValue3 rfl rfl (fun b4 => ?_)
  refine oj_alloc Tryz.zeroValue3 rfl rfl (fun b5 => ?_)
  refine oj_step (y_assign rfl) rfl rfl rfl ?_
  refine oj_nil ?_
  refine ej_th (cj_seq (cj_seq (cj_region ?_)))
  refine oj_step (y_move rfl) rfl rfl rfl ?_
  refine oj_step (y_loadN Tryz.isAgg26 Tryz.sizeOf26 rfl) rfl rfl rfl ?_
  refine oj_buildSlice (cs := [.string x.cls, .slice x.As x.says.length x.cs, .slice x.Ap x.parts.length x.cp]) [.string ⟨#[]⟩, .slice none 0 0, .slice none 0 0] Tryz.underlying24 Tryz.sizeOf26 Tryz.zeroValue26 rfl rfl (by kernel_rfl) (by kernel_rfl) rfl (fun b15 => ?_)
  refine oj_litOw (b := b15) (e := 26) (c := 1) (sz := 3) (enc := encIt) [x] rfl rfl rfl (by unfold maxLen; simp) ?_
  refine oj_call (X := Nat) (fun m => .tuple #[.map (bif askIOk l [x] then some m else none), .int .i64 (askIE l [x])]) (fun _ => []) (fun m => bif askIOk l [x] then [mp ekS evC m (gramM l)] else []) Tryz.call27 rfl (fun w hp => by
    have h := k_pasked l A c [x] (some ⟨b15, 0, none⟩) 1 w hp.rd (fun c hc => (hgc c hc).mono hp.below) (hp.rdO (A := some ⟨b15, 0, none⟩) (fun _ => rfl) (by unfold maxLen; simp)) (fun y hy => by
      rw [List.mem_singleton.1 hy]
      exact hx.mono hp.below)
    exact h.mono fun e w' ⟨m, he, hg, hm⟩ => ⟨m, he, hg, by simp, by simp, fun f hf => by
      cases hok : askIOk l [x] with
      | false => rw [hok] at hf; cases hf
      | true =>
        rw [hok] at hf
        rw [List.mem_singleton.1 hf]
        have h3 := hm hok
        exact ⟨h3.1, fun i hi => by have : i = m := hi; subst this; exact ⟨h3.2.1, h3.2.2, by simp⟩⟩⟩) rfl (fun m16 => ?_)
  dsimp only [List.cons_append, List.nil_append]
  refine oj_step (y_move rfl) rfl rfl rfl ?_
  refine oj_step (y_extract rfl rfl) rfl rfl rfl ?_
  refine oj_step (y_extract rfl rfl) rfl rfl rfl ?_
  refine oj_step (y_assign rfl) rfl rfl rfl ?_
  refine oj_step (y_assign rfl) rfl rfl rfl ?_
  refine oj_nil ?_
  refine ej_th (cj_seq ?_)
  refine cj_regionG (gj_step (y_move rfl) rfl rfl rfl (gj_step (y_neq rfl rfl) rfl rfl rfl (gj_nil ?_)))
  refine ej_th ?_
  refine cj_cond rfl (fun h20 => ?_) (fun h20 => ?_)
  · have h20b := h20
    try simp only [sxb] at h20
    have hno := askIE_no h20b
    refine cj_seq (cj_region ?_)
    refine oj_step (y_move rfl) rfl rfl rfl ?_
    refine oj_store rfl rfl rfl rfl Tryz.sizeOf3 rfl ?_
    refine oj_store rfl rfl rfl rfl Tryz.sizeOf3 rfl ?_
    refine oj_step (y_assign rfl) rfl rfl rfl ?_
    refine oj_nil ?_
    refine ej_th (cj_ret (ej_then_ret ?_))
    exact ej_retMC0 rfl Tryz.results39 rfl (y_load1 Tryz.isAgg3 rfl rfl) rfl (y_load1 Tryz.isAgg3 rfl rfl) rfl (fun w' hp => ⟨by rw [CntI, CntS, hno]; rfl, hp.below⟩)
  · have h20b := h20
    try simp only [sxb] at h20
    have hok := askIE_ok h20b
    obtain ⟨hoT, hcn⟩ := ask_T hok x (by simp)
    have hgO := ask_gram hok
    rw [hok]
    dsimp only [cond, List.cons_append, List.nil_append]
    have hal : x.all.length ≤ 24 := by have := all_len x; omega
    have h8 := says8 x hoT
    refine cj_skip (ej_th (cj_seq (cj_seq (cj_region ?_))))
    refine oj_step (y_loadN Tryz.isAgg26 Tryz.sizeOf26 rfl) rfl rfl rfl ?_
    refine oj_call (X := Nat) (fun z => .func (.func 89) #[] #[.pointer (some ⟨z, 0, none⟩)]) (fun _ => []) (fun z => [ownB z (cellsB 26 [.string x.cls, .slice x.As x.says.length x.cs, .slice x.Ap x.parts.length x.cp])]) Tryz.call76 rfl (fun w hp => k_all x w) rfl (fun bx => ?_)
    dsimp only [List.nil_append, List.cons_append]
    refine oj_nil ?_
    refine ej_th (cj_block ?_)
    refine cj_addS (itF (fun b => b < w.heap.size) [x]) (fun w1 hp => ⟨fun z hz => (by rw [List.mem_singleton.1 hz]; exact hx.goodF.stab (fun b hb => (hp.fr b hb).2)), fun b hb => ⟨Nat.lt_of_lt_of_le hb hp.size, fun o ho hob => ((hp.own o ho).2 b hob).2 hb⟩⟩) ?_
    refine cj_eqO [ow 26 3 encIt (some ⟨b15, 0, none⟩) 1 [x], ownB b5 (cellsB 3 [.int .i64 (sdAll (x.all.take 0))]), ownB b4 (cellsB 3 [.int .i64 ((0 : Nat) : Int)]), ownB b3 (cellsB 26 [.string x.cls, .slice x.As x.says.length x.cs, .slice x.Ap x.parts.length x.cp])] rfl ?_
    refine cj_rangeX (k_allIter x hx bx (fun b => b < w.heap.size)) (Y := Nat) (Z := Empty) (fun _ _ => True) (fun k _ => [ownB b5 (cellsB 3 [.int .i64 (sdAll (x.all.take k))]), ownB b4 (cellsB 3 [.int .i64 (k : Nat)]), ownB b3 (cellsB 26 [.string x.cls, .slice x.As x.says.length x.cs, .slice x.Ap x.parts.length x.cp])]) Empty.elim Empty.elim 0 trivial rfl Tryz.call89 (fun _ => rfl) rfl ?_ ?_ ?_
    · rintro Xs lo Db r0 r1 k q - hq -
      have hkl : k < x.all.length := (List.getElem?_eq_some_iff.1 hq).1
      have hq8 := h8 q (List.mem_of_getElem? hq)
      have hsk := sdAll_bd (x.all.take k) (fun r hr => h8 r (List.mem_of_mem_take hr))
      have hkt : (x.all.take k).length ≤ 24 := by rw [List.length_take]; omega
      dsimp only [List.cons_append, List.nil_append]
      refine cj_region ?_
      refine oj_alloc Tryz.zeroValue26 rfl rfl (fun b9 => ?_)
      refine oj_store rfl rfl rfl rfl Tryz.sizeOf26 rfl ?_
      refine oj_nil ?_
      refine ej_beg (cj_block (cj_seq (cj_region ?_)))
      refine oj_step (y_load1 Tryz.isAgg3 rfl rfl) rfl rfl rfl ?_
      refine oj_step (y_add rfl rfl (by omega)) rfl rfl rfl ?_
      refine oj_store rfl rfl rfl rfl Tryz.sizeOf3 rfl ?_
      refine oj_nil ?_
      refine ej_th (cj_seq ?_)
      refine cj_addS (sl (fun b => b < w.heap.size) 1 enStr q.As q.says) (fun w1 hp => ⟨(((hp.shared _ (.head _)).1 x (List.mem_cons_self ..)).all q (List.mem_of_getElem? hq)).hs, fun b hb => ⟨(hp.shared _ (.head _)).2.1 b hb, fun o ho => (hp.shared _ (.head _)).2.2 o ho b hb⟩⟩) ?_
      refine cj_regionG (gj_step (y_fa fa26_1 rfl) rfl rfl rfl (gj_step (y_load1 Tryz.isAgg23 rfl rfl) rfl rfl rfl (gj_step (y_lenA Tryz.underlying23 rfl) rfl rfl rfl (gj_step (y_move rfl) rfl rfl rfl (gj_nil ?_)))))
      refine ej_th (cj_block ?_)
      rw [show sdAll (x.all.take k) = sdAll (x.all.take k) + saidN (q.says.take 0) by simp [saidN]]
      refine cj_lpi (X := Nat) [(4, _), (5, _), (6, _), (28, _), (29, _)] (fun j => j ≤ q.says.length) (fun j => [(30, .int .i64 j)]) (fun j => ownB b9 (cellsB 26 [.string q.cls, .slice q.As q.says.length q.cs, .slice q.Ap q.parts.length q.cp]) :: ownB lo r1 :: ownB Db (.deferred (some [])) :: [ownB b5 (cellsB 3 [.int .i64 (sdAll (x.all.take k) + saidN (q.says.take j))]), ownB b4 (cellsB 3 [.int .i64 (((k : Nat) : Int) + 1)]), ownB b3 (cellsB 26 [.string x.cls, .slice x.As x.says.length x.cs, .slice x.Ap x.parts.length x.cp])]) (fun j => (sl (fun b => b < w.heap.size) 1 enStr q.As q.says :: itF (fun b => b < w.heap.size) [x] :: ownB bx (cellsB 26 [.string x.cls, .slice x.As x.says.length x.cs, .slice x.Ap x.parts.length x.cp]) :: mp ekS evC m16 (gramM l) :: sl (fun b => b < w.heap.size) 4 encCl A l :: Xs)) (fun j => q.says.length - j) 0 (Nat.zero_le _) ⟨rfl, rfl, rfl, rfl, rfl, rfl, trivial⟩ ?_
      rintro j hj
      dsimp only [List.cons_append, List.nil_append]
      refine cj_seq ?_
      refine cj_regionG (gj_step (y_lss rfl rfl) rfl rfl rfl (gj_nil ?_))
      refine ej_th (cj_seq ?_)
      refine cj_cond rfl (fun h31 => ?_) (fun h31 => ?_)
      · have h31b := h31
        try simp only [sxb] at h31
        obtain ⟨s, hs⟩ : ∃ s, q.says[j]? = some s := ⟨_, List.getElem?_eq_getElem (by omega)⟩
        have hst := saidN_take q.says j s hs
        have hsb := saidN_bd (q.says.take j)
        have hsl : (q.says.take j).length ≤ 8 := by rw [List.length_take]; omega
        refine cj_skip (ej_th (cj_seq (cj_block (cj_seq ?_))))
        refine cj_regionG (gj_step (y_ixR (reads_sl) Tryz.underlying23 Tryz.sizeOf9 rfl rfl (⟨by omega, by omega⟩)) rfl rfl rfl (gj_step (y_ld0 (reads_sl) Tryz.isAgg9 rfl (hs) rfl) rfl rfl rfl (gj_step (y_assign rfl) rfl rfl rfl (gj_nil ?_))))
        refine ej_th (cj_seq ?_)
        refine cj_regionG (gj_step (y_move rfl) rfl rfl rfl (gj_step (y_neqS rfl rfl) rfl rfl rfl (gj_nil ?_)))
        refine ej_th ?_
        refine cj_cond rfl (fun h35 => ?_) (fun h35 => ?_)
        · have h35b := h35
          try simp only [sxb] at h35
          rw [if_neg (show ¬ (s == (⟨#[]⟩ : ByteArray)) = true by rw [not_t h35b]; simp)] at hst
          refine cj_region ?_
          refine oj_step (y_load1 Tryz.isAgg3 rfl rfl) rfl rfl rfl ?_
          refine oj_step (y_add rfl rfl (by omega)) rfl rfl rfl ?_
          refine oj_store rfl rfl rfl rfl Tryz.sizeOf3 rfl ?_
          refine oj_nil ?_
          refine ej_blk (ej_th ?_)
          refine cj_regionG (gj_step (y_add rfl rfl (by omega)) rfl rfl rfl (gj_step (y_move rfl) rfl rfl rfl (gj_nil ?_)))
          rw [show sdAll (x.all.take k) + saidN (q.says.take j) + 1 = sdAll (x.all.take k) + saidN (q.says.take (j + 1)) by omega]
          exact ej_nx (j + 1) (by omega) (by omega) ⟨rfl, rfl, rfl, rfl, rfl, rfl, trivial⟩
        · have h35b := h35
          try simp only [sxb] at h35
          rw [if_pos (not_f h35b)] at hst
          refine cj_skip (ej_blk (ej_th ?_))
          refine cj_regionG (gj_step (y_add rfl rfl (by omega)) rfl rfl rfl (gj_step (y_move rfl) rfl rfl rfl (gj_nil ?_)))
          rw [show saidN (q.says.take j) = saidN (q.says.take (j + 1)) by omega]
          exact ej_nx (j + 1) (by omega) (by omega) ⟨rfl, rfl, rfl, rfl, rfl, rfl, trivial⟩
      · have h31b := h31
        try simp only [sxb] at h31
        have hje : q.says.take j = q.says := List.take_of_length_le (by omega)
        rw [hje]
        refine cj_exit (ej_then_exit (ej_then_exit (ej_blk_hit (ej_blk ?_))))
        rw [← sdAll_take x.all k q hq, show ((k : Nat) : Int) + 1 = ((k + 1 : Nat) : Int) by omega]
        exact ej_rdS 0 trivial (fun f h => List.mem_cons_of_mem _ h)
    · rintro Db - -
      rw [List.take_length, all_said, all_len]
      refine ej_blk (ej_th (cj_seq ?_))
      refine cj_plan 5 (by kernel_rfl) (by kernel_rfl) ?_
      refine pl_y 0 rfl (y_load1 Tryz.isAgg3 rfl rfl) rfl rfl rfl rfl (by kernel_rfl) ?_
      refine pl_y 1 rfl (y_load1 Tryz.isAgg3 rfl rfl) rfl rfl rfl rfl (by kernel_rfl) ?_
      refine pl_w1 2 (by kernel_rfl) rfl rfl (pl_fire rfl rfl rfl (by kernel_rfl) ?_)
      refine oj_store rfl rfl rfl rfl Tryz.sizeOf3 rfl ?_
      refine oj_nil ?_
      refine ej_pl (lt_y (y_load1 Tryz.isAgg3 rfl rfl) rfl (lt_w (by kernel_rfl) (lt_nil))) ?_
      refine pl_w1 3 (by kernel_rfl) rfl rfl (pl_fire rfl rfl rfl (by kernel_rfl) ?_)
      refine oj_store rfl rfl rfl rfl Tryz.sizeOf3 rfl ?_
      refine oj_nil ?_
      refine ej_pl (lt_w (by kernel_rfl) (lt_w (by kernel_rfl) (lt_nil))) ?_
      refine pl_y 4 rfl (y_assign rfl) rfl rfl rfl rfl (by kernel_rfl) ?_
      refine pl_end (by kernel_rfl) ?_
      refine ej_th (cj_ret ?_)
      have hz : askIE l [x] = 0 := by simpa using h20b
      exact ej_retMC1 rfl Tryz.results39 rfl (y_load1 Tryz.isAgg3 rfl rfl) rfl (y_load1 Tryz.isAgg3 rfl rfl) rfl (fun w' hp => ⟨by rw [CntI, CntS, hok, hz]; rfl, hp.below⟩)
    · intro Db z; exact z.elim

end Go.Proofs.YtlfbghkcfmcnlaaGreatDoor
namespace Go.Proofs.YtlfbghkcfmcnlaaGreatDoor
open Go.Sx Go.RowKit
set_option maxRecDepth 20000
theorem len_of {a b : List Int} (h : ((a.length : Int) == (b.length : Int)) = true) : a.length = b.length := by
  have h2 : (a.length : Int) = b.length := by simpa using h
  omega
theorem same_start (a b : List Int) : (((a.length : Int) == (b.length : Int)) && decide (a.drop 0 = b.drop 0)) = decide (a = b) := by
  rw [List.drop_zero, List.drop_zero]
  by_cases h : (a.length : Int) = b.length
  · rw [show ((a.length : Int) == (b.length : Int)) = true by simpa using h]; rfl
  · rw [show ((a.length : Int) == (b.length : Int)) = false by simpa using h, eq_len h]; rfl
theorem beq_dec {x y : Int} {c : Bool} : ((x == y) && c) = (decide (x = y) && c) := by
  by_cases h : x = y <;> simp [h]
theorem Res.of_lit {α : Type} {w w' : World} {b sz : Nat} {enc : α → List Value} {xs : List α} (h : (litS b sz enc xs).P w' ∧ ∀ i, (litS b sz enc xs).fp i → w.heap.size ≤ i ∧ i < w'.heap.size ∧ ∀ o ∈ ([] : List Fact), ¬ o.fp i) : (sl (fun i => w.heap.size ≤ i ∧ i < w'.heap.size) sz enc (some ⟨b, 0, none⟩) xs).P w' :=
  sl_fp h.1 (fun i hi => ⟨(h.2 i hi).1, (h.2 i hi).2.1⟩)

theorem k_SameSp (a b : List Span) (Aa Ab : Option Addr) (ca cb : Nat) (w : World) (ha : Rd w 2 encSp Aa a) (hb : Rd w 2 encSp Ab b) : Calls Tryz.prog 42 #[.slice Aa a.length ca, .slice Ab b.length cb] w (fun e w' => e = .returned (.bool (decide (a = b))) ∧ Grow w w') := by
  have hla := ha.len
  have hlb := hb.len
  refine enter_pure (args := [.slice Aa a.length ca, .slice Ab b.length cb]) [sl (fun b => b < w.heap.size) 2 encSp Aa a, sl (fun b => b < w.heap.size) 2 encSp Ab b] Tryz.func42 rfl (by rw [Tryz.ntmps42]; simp) (fun g hg => by simp at hg; rcases hg with rfl | rfl; exact ⟨ha, fun _ h => h⟩; exact ⟨hb, fun _ h => h⟩) ?_
  refine cj_seq ?_
  refine cj_regionG (gj_step (y_assign rfl) rfl rfl rfl (gj_nil ?_))
  refine ej_th (cj_seq (cj_seq ?_))
  refine cj_regionG (gj_step (y_move rfl) rfl rfl rfl (gj_step (y_lenA Tryz.underlying54 rfl) rfl rfl rfl (gj_step (y_move rfl) rfl rfl rfl (gj_step (y_lenA Tryz.underlying54 rfl) rfl rfl rfl (gj_step (y_neq rfl rfl) rfl rfl rfl (gj_nil ?_))))))
  refine ej_th ?_
  refine cj_cond rfl (fun h10 => ?_) (fun h10 => ?_)
  · have h10b := h10
    try simp only [sxb] at h10
    refine cj_seq ?_
    refine cj_regionG (gj_step (y_assign rfl) rfl rfl rfl (gj_nil ?_))
    refine ej_th (cj_ret (ej_then_ret ?_))
    refine ej_ret1 rfl Tryz.results42 rfl (fun w' hp => ⟨?_, hp.below⟩)
    rw [eq_len (by simpa using h10b)]
  · have h10b := h10
    try simp only [sxb] at h10
    have hle0 : (a.length : Int) = b.length := by simpa using h10b
    have hle : a.length = b.length := by omega
    refine cj_skip (ej_th (cj_seq (cj_seq ?_)))
    refine cj_regionG (gj_step (y_assign rfl) rfl rfl rfl (gj_nil ?_))
    refine ej_th (cj_block ?_)
    refine cj_lpic (X := Nat) [(0, _), (1, _)] (fun k => k ≤ a.length ∧ decide (a.drop k = b.drop k) = decide (a = b)) (fun k => [(5, .int .i64 k)]) (fun k => a.length - k) 0 (⟨Nat.zero_le _, rfl⟩) ⟨rfl, rfl, rfl, trivial⟩ ?_
    rintro k ⟨hk, hsk⟩
    dsimp only [List.cons_append, List.nil_append]
    refine cj_seq (cj_seq ?_)
    refine cj_regionG (gj_step (y_move rfl) rfl rfl rfl (gj_step (y_move rfl) rfl rfl rfl (gj_step (y_lenA Tryz.underlying54 rfl) rfl rfl rfl (gj_step (y_lss rfl rfl) rfl rfl rfl (gj_nil ?_)))))
    refine ej_th ?_
    refine cj_cond rfl (fun h14 => ?_) (fun h14 => ?_)
    · have h14b := h14
      try simp only [sxb] at h14
      obtain ⟨x, hx⟩ : ∃ x, a[k]? = some x := ⟨_, List.getElem?_eq_getElem (by omega)⟩
      obtain ⟨y, hy⟩ : ∃ y, b[k]? = some y := ⟨_, List.getElem?_eq_getElem (by omega)⟩
      rw [eq_drop a b k x y hx hy] at hsk
      refine cj_skip (ej_th (cj_seq (cj_block (cj_seq ?_))))
      refine cj_draw (by kernel_rfl) (by kernel_rfl) (gj_step (y_move rfl) rfl rfl rfl (gj_step (y_move rfl) rfl rfl rfl (gj_step (y_ixR (reads_sl) Tryz.underlying54 Tryz.sizeOf70 rfl rfl (⟨by omega, by omega⟩)) rfl rfl rfl (gj_step (y_ldW (reads_sl) Tryz.isAgg70 Tryz.sizeOf70 rfl (hx) (fun _ => rfl)) rfl rfl rfl (gj_step (y_move rfl) rfl rfl rfl (gj_step (y_move rfl) rfl rfl rfl (gj_step (y_ixR (reads_sl) Tryz.underlying54 Tryz.sizeOf70 rfl rfl (⟨by omega, by omega⟩)) rfl rfl rfl (gj_step (y_ldW (reads_sl) Tryz.isAgg70 Tryz.sizeOf70 rfl (hy) (fun _ => rfl)) rfl rfl rfl (gj_step (y_bin rfl rfl (fun x y w => ne70 _ _ _ _ x y w)) rfl rfl rfl (gj_nil ?_))))))))))
      refine ej_th ?_
      refine cj_cond rfl (fun h25 => ?_) (fun h25 => ?_)
      · have h25b := h25
        try simp only [sxb] at h25
        rw [sp_neq] at h25b
        rw [not_t h25b] at hsk
        refine cj_seq ?_
        refine cj_regionG (gj_step (y_assign rfl) rfl rfl rfl (gj_nil ?_))
        refine ej_th (cj_ret (ej_blk_ret (ej_then_ret (ej_then_ret (ej_blk_ret (ej_then_ret ?_))))))
        refine ej_ret1 rfl Tryz.results42 rfl (fun w' hp => ⟨?_, hp.below⟩)
        rw [← hsk]; rfl
      · have h25b := h25
        try simp only [sxb] at h25
        rw [sp_neq] at h25b
        rw [not_f h25b, Bool.true_and] at hsk
        refine cj_skip (ej_blk (ej_th ?_))
        refine cj_regionG (gj_step (y_move rfl) rfl rfl rfl (gj_step (y_add rfl rfl (by omega)) rfl rfl rfl (gj_step (y_assign rfl) rfl rfl rfl (gj_nil ?_))))
        exact ej_nx (k + 1) (by omega) ⟨by omega, by exact hsk⟩ ⟨rfl, rfl, rfl, trivial⟩
    · have h14b := h14
      try simp only [sxb] at h14
      refine cj_exit (ej_then_exit (ej_then_exit (ej_blk_hit (ej_th (cj_seq ?_)))))
      refine cj_regionG (gj_step (y_assign rfl) rfl rfl rfl (gj_nil ?_))
      refine ej_th (cj_ret ?_)
      refine ej_ret1 rfl Tryz.results42 rfl (fun w' hp => ⟨?_, hp.below⟩)
      rw [← hsk, List.drop_of_length_le (show a.length ≤ k by omega), List.drop_of_length_le (show b.length ≤ k by omega)]; rfl

theorem k_Same (a b : List Int) (Aa Ab : Option Addr) (ca cb : Nat) (w : World) (ha : Rd w 1 enInt Aa a) (hb : Rd w 1 enInt Ab b) : Calls Tryz.prog 26 #[.slice Aa a.length ca, .slice Ab b.length cb] w (fun e w' => e = .returned (.bool (decide (a = b))) ∧ Grow w w') := by
  have hla := ha.len
  have hlb := hb.len
  refine enter_pure (args := [.slice Aa a.length ca, .slice Ab b.length cb]) [sl (fun b => b < w.heap.size) 1 enInt Aa a, sl (fun b => b < w.heap.size) 1 enInt Ab b] Tryz.func26 rfl (by rw [Tryz.ntmps26]; simp) (fun g hg => by simp at hg; rcases hg with rfl | rfl; exact ⟨ha, fun _ h => h⟩; exact ⟨hb, fun _ h => h⟩) ?_
  refine cj_seq ?_
  refine cj_regionG (gj_step (y_assign rfl) rfl rfl rfl (gj_nil ?_))
  refine ej_th (cj_seq ?_)
  refine cj_regionG (gj_step (y_move rfl) rfl rfl rfl (gj_step (y_lenA Tryz.underlying49 rfl) rfl rfl rfl (gj_step (y_move rfl) rfl rfl rfl (gj_step (y_lenA Tryz.underlying49 rfl) rfl rfl rfl (gj_step (y_eql rfl rfl) rfl rfl rfl (gj_step (y_assign rfl) rfl rfl rfl (gj_nil ?_)))))))
  refine ej_th (cj_seq (cj_seq ?_))
  refine cj_regionG (gj_step (y_assign rfl) rfl rfl rfl (gj_nil ?_))
  refine ej_th (cj_block ?_)
  refine cj_lpic (X := Nat × Bool) [(0, _), (1, _), (4, _)] (fun ⟨k, ok⟩ => k ≤ a.length ∧ (ok = true → a.length = b.length) ∧ (ok && decide (a.drop k = b.drop k)) = decide (a = b)) (fun ⟨k, ok⟩ => [(5, .bool ok), (6, .int .i64 k)]) (fun ⟨k, ok⟩ => a.length - k) (0, (a.length : Int) == (b.length : Int)) (⟨Nat.zero_le _, fun h => len_of h, same_start a b⟩) ⟨rfl, rfl, rfl, rfl, rfl, trivial⟩ ?_
  rintro ⟨k, ok⟩ ⟨hk, hle, hsk⟩
  dsimp only [List.cons_append, List.nil_append]
  refine cj_seq (cj_seq ?_)
  refine cj_regionG (gj_step (y_move rfl) rfl rfl rfl (gj_step (y_move rfl) rfl rfl rfl (gj_g 4 13 17 rfl rfl rfl rfl (fun hg13 => gj_yes rfl rfl rfl (y_move rfl) rfl rfl (gj_yes rfl rfl rfl (y_move rfl) rfl rfl (gj_yes rfl rfl rfl (y_lenA Tryz.underlying49 rfl) rfl rfl (gj_yes rfl rfl rfl (y_lss rfl rfl) rfl rfl (gj_nil rfl))))) (gj_step (y_and rfl rfl rfl) rfl rfl rfl (gj_nil ?_)))))
  refine ej_th ?_
  refine cj_cond rfl (fun h18 => ?_) (fun h18 => ?_)
  · have h18b := h18
    try simp only [sxb] at h18
    rw [Bool.and_eq_true, decide_eq_true_eq] at h18b
    have hok := h18b.1
    have hl2 := hle hok
    have hk2 := h18b.2
    obtain ⟨x, hx⟩ : ∃ x, a[k]? = some x := ⟨_, List.getElem?_eq_getElem (by omega)⟩
    obtain ⟨y, hy⟩ : ∃ y, b[k]? = some y := ⟨_, List.getElem?_eq_getElem (by omega)⟩
    rw [eq_drop a b k x y hx hy, hok, Bool.true_and] at hsk
    refine cj_skip (ej_th (cj_seq (cj_block ?_)))
    refine cj_draw (by kernel_rfl) (by kernel_rfl) (gj_step (y_move rfl) rfl rfl rfl (gj_step (y_move rfl) rfl rfl rfl (gj_step (y_ixR (reads_sl) Tryz.underlying49 Tryz.sizeOf3 rfl rfl (⟨by omega, by omega⟩)) rfl rfl rfl (gj_step (y_ld0 (reads_sl) Tryz.isAgg3 rfl (hx) rfl) rfl rfl rfl (gj_step (y_move rfl) rfl rfl rfl (gj_step (y_move rfl) rfl rfl rfl (gj_step (y_ixR (reads_sl) Tryz.underlying49 Tryz.sizeOf3 rfl rfl (⟨by omega, by omega⟩)) rfl rfl rfl (gj_step (y_ld0 (reads_sl) Tryz.isAgg3 rfl (hy) rfl) rfl rfl rfl (gj_step (y_eql rfl rfl) rfl rfl rfl (gj_step (y_assign rfl) rfl rfl rfl (gj_nil ?_)))))))))))
    refine ej_blk (ej_th ?_)
    refine cj_regionG (gj_step (y_move rfl) rfl rfl rfl (gj_step (y_add rfl rfl (by omega)) rfl rfl rfl (gj_step (y_assign rfl) rfl rfl rfl (gj_nil ?_))))
    exact ej_nx (k + 1, x == y) (by simp only; omega) ⟨by first | omega | (simp only; omega), fun _ => hle hok, by rw [← hsk, beq_dec]⟩ ⟨rfl, rfl, rfl, rfl, rfl, trivial⟩
  · have h18b := h18
    try simp only [sxb] at h18
    rw [Bool.and_eq_false_iff, decide_eq_false_iff_not] at h18b
    refine cj_exit (ej_then_exit (ej_then_exit (ej_blk_hit (ej_th (cj_seq ?_)))))
    refine cj_regionG (gj_step (y_move rfl) rfl rfl rfl (gj_step (y_assign rfl) rfl rfl rfl (gj_nil ?_)))
    refine ej_th (cj_ret ?_)
    refine ej_ret1 rfl Tryz.results26 rfl (fun w' hp => ⟨?_, hp.below⟩)
    rw [← hsk]
    cases hok : ok with
    | false => rfl
    | true =>
      have hl2 := hle hok
      have hk2 : a.length ≤ k := by rcases h18b with h | h; rw [hok] at h; cases h; omega
      rw [List.drop_of_length_le hk2, List.drop_of_length_le (show b.length ≤ k by omega)]; rfl

theorem k_gem (s : ByteArray) (w : World)  : Calls Tryz.prog 16 #[.string s] w (fun e w' => ∃ x : Nat, e = .returned (evI (gemV x s)) ∧ Grow w w' ∧ (∀ g ∈ ([] : List Fact), g.P w' ∧ ∀ b, g.fp b → w.heap.size ≤ b ∧ b < w'.heap.size) ∧ ([] : List Fact).Pairwise (fun f g => ∀ b, f.fp b → ¬ g.fp b) ∧ (∀ g ∈ [litS x 1 enStr [s]], g.P w' ∧ ∀ b, g.fp b → w.heap.size ≤ b ∧ b < w'.heap.size ∧ ∀ o ∈ ([] : List Fact), ¬ o.fp b)) := by
  refine enter_pure (args := [.string s]) [] Tryz.func16 rfl (by rw [Tryz.ntmps16]; simp) (by simp) ?_
  refine cj_seq (cj_region ?_)
  refine oj_alloc Tryz.zeroValue26 rfl rfl (fun b2 => ?_)
  refine oj_nil ?_
  refine ej_th (cj_seq (cj_region ?_))
  refine oj_step (y_move rfl) rfl rfl rfl ?_
  refine oj_buildSlice (cs := [.string s]) [.string ⟨#[]⟩] Tryz.underlying23 Tryz.sizeOf9 Tryz.zeroValue9 rfl rfl (by kernel_rfl) (by kernel_rfl) rfl (fun b4 => ?_)
  refine oj_step (y_build (cs := [.string ⟨#[103, 101, 109]⟩, .slice (some ⟨b4, 0, none⟩) 1 1, .slice none 0 0]) st26 rfl (by kernel_rfl)) rfl rfl rfl ?_
  refine oj_store rfl rfl rfl rfl Tryz.sizeOf26 rfl ?_
  refine oj_nil ?_
  refine ej_th (cj_ret ?_)
  exact ej_retC1 rfl Tryz.results16 rfl (y_loadN Tryz.isAgg26 Tryz.sizeOf26 rfl) (fun w' hp => ⟨b4, rfl, hp.below, by simp, List.Pairwise.nil, fun g hg => by
    rw [List.mem_singleton.1 hg]
    exact hp.lit [s] (fun _ => rfl) rfl (by unfold maxLen; simp)⟩)

theorem k_jewel (s : ByteArray) (A : Option Addr) (n c : Nat) (w : World)  : Calls Tryz.prog 15 #[.string s, .slice A n c] w (fun e w' => ∃ x : Nat, e = .returned (.agg #[.string sRing, .slice (at0 x) 2 2, .slice A n c]) ∧ Grow w w' ∧ (∀ g ∈ ([] : List Fact), g.P w' ∧ ∀ b, g.fp b → w.heap.size ≤ b ∧ b < w'.heap.size) ∧ ([] : List Fact).Pairwise (fun f g => ∀ b, f.fp b → ¬ g.fp b) ∧ (∀ g ∈ [litS x 1 enStr [sGold, s]], g.P w' ∧ ∀ b, g.fp b → w.heap.size ≤ b ∧ b < w'.heap.size ∧ ∀ o ∈ ([] : List Fact), ¬ o.fp b)) := by
  refine enter_pure (args := [.string s, .slice A n c]) [] Tryz.func15 rfl (by rw [Tryz.ntmps15]; simp) (by simp) ?_
  refine cj_seq (cj_region ?_)
  refine oj_alloc Tryz.zeroValue26 rfl rfl (fun b4 => ?_)
  refine oj_nil ?_
  refine ej_th (cj_seq (cj_region ?_))
  refine oj_step (y_move rfl) rfl rfl rfl ?_
  refine oj_buildSlice (cs := [.string ⟨#[103, 111, 108, 100]⟩, .string s]) [.string ⟨#[]⟩, .string ⟨#[]⟩] Tryz.underlying23 Tryz.sizeOf9 Tryz.zeroValue9 rfl rfl (by kernel_rfl) (by kernel_rfl) rfl (fun b6 => ?_)
  refine oj_step (y_move rfl) rfl rfl rfl ?_
  refine oj_step (y_build (cs := [.string ⟨#[114, 105, 110, 103]⟩, .slice (some ⟨b6, 0, none⟩) 2 2, .slice A n c]) st26 rfl (by kernel_rfl)) rfl rfl rfl ?_
  refine oj_store rfl rfl rfl rfl Tryz.sizeOf26 rfl ?_
  refine oj_nil ?_
  refine ej_th (cj_ret ?_)
  exact ej_retC1 rfl Tryz.results15 rfl (y_loadN Tryz.isAgg26 Tryz.sizeOf26 rfl) (fun w' hp => ⟨b6, rfl, hp.below, by simp, List.Pairwise.nil, fun g hg => by
    rw [List.mem_singleton.1 hg]
    exact hp.lit [sGold, s] (fun _ => rfl) rfl (by unfold maxLen; simp)⟩)

set_option maxHeartbeats 1000000 in
theorem k_grammar  (w : World)  : Calls Tryz.prog 17 #[] w (fun e w' => ∃ z : GrA × Nat × Nat, e = .returned (.slice (at0 z.1.g12) 2 2) ∧ Grow w w' ∧ (∀ g ∈ ([] : List Fact), g.P w' ∧ ∀ b, g.fp b → w.heap.size ≤ b ∧ b < w'.heap.size) ∧ ([] : List Fact).Pairwise (fun f g => ∀ b, f.fp b → ¬ g.fp b) ∧ (∀ g ∈ [clF (fun i => z.2.1 ≤ i ∧ i < z.2.2) (at0 z.1.g12) (gramV z.1)], g.P w' ∧ ∀ b, g.fp b → w.heap.size ≤ b ∧ b < w'.heap.size ∧ ∀ o ∈ ([] : List Fact), ¬ o.fp b)) := by
  refine enter_pure (args := []) [] Tryz.func17 rfl (by rw [Tryz.ntmps17]; simp) (by simp) ?_
  refine cj_seq ?_
  refine cj_regionG (gj_step (y_assign rfl) rfl rfl rfl (gj_nil ?_))
  refine ej_th (cj_seq (cj_region ?_))
  refine oj_buildSlice (cs := [.string ⟨#[103, 111, 108, 100]⟩, .string ⟨#[115, 105, 108, 118, 101, 114]⟩]) [.string ⟨#[]⟩, .string ⟨#[]⟩] Tryz.underlying23 Tryz.sizeOf9 Tryz.zeroValue9 rfl rfl (by kernel_rfl) (by kernel_rfl) rfl (fun b1 => ?_)
  refine oj_step (y_build (cs := [.string ⟨#[109, 101, 116, 97, 108]⟩, .slice (some ⟨b1, 0, none⟩) 2 2, .bool true]) st39 rfl (by kernel_rfl)) rfl rfl rfl ?_
  refine oj_buildSlice (cs := [.string ⟨#[115, 109, 97, 108, 108]⟩, .string ⟨#[108, 97, 114, 103, 101]⟩]) [.string ⟨#[]⟩, .string ⟨#[]⟩] Tryz.underlying23 Tryz.sizeOf9 Tryz.zeroValue9 rfl rfl (by kernel_rfl) (by kernel_rfl) rfl (fun b3 => ?_)
  refine oj_step (y_build (cs := [.string ⟨#[115, 105, 122, 101]⟩, .slice (some ⟨b3, 0, none⟩) 2 2, .bool false]) st39 rfl (by kernel_rfl)) rfl rfl rfl ?_
  refine oj_buildSlice (cs := [.string ⟨#[109, 101, 116, 97, 108]⟩, .slice (some ⟨b1, 0, none⟩) 2 2, .bool true, .string ⟨#[115, 105, 122, 101]⟩, .slice (some ⟨b3, 0, none⟩) 2 2, .bool false]) [.string ⟨#[]⟩, .slice none 0 0, .bool false, .string ⟨#[]⟩, .slice none 0 0, .bool false] Tryz.underlying35 Tryz.sizeOf39 Tryz.zeroValue39 rfl rfl (by kernel_rfl) (by kernel_rfl) rfl (fun b5 => ?_)
  refine oj_buildSlice (cs := [.string ⟨#[103, 101, 109]⟩]) [.string ⟨#[]⟩] Tryz.underlying23 Tryz.sizeOf9 Tryz.zeroValue9 rfl rfl (by kernel_rfl) (by kernel_rfl) rfl (fun b6 => ?_)
  refine oj_step (y_build (cs := [.string ⟨#[114, 105, 110, 103]⟩, .slice (some ⟨b5, 0, none⟩) 2 2, .slice (some ⟨b6, 0, none⟩) 1 1, .int .i64 2]) st37 rfl (by kernel_rfl)) rfl rfl rfl ?_
  refine oj_buildSlice (cs := [.string ⟨#[114, 111, 117, 110, 100]⟩, .string ⟨#[111, 118, 97, 108]⟩]) [.string ⟨#[]⟩, .string ⟨#[]⟩] Tryz.underlying23 Tryz.sizeOf9 Tryz.zeroValue9 rfl rfl (by kernel_rfl) (by kernel_rfl) rfl (fun b8 => ?_)
  refine oj_step (y_build (cs := [.string ⟨#[99, 117, 116]⟩, .slice (some ⟨b8, 0, none⟩) 2 2, .bool false]) st39 rfl (by kernel_rfl)) rfl rfl rfl ?_
  refine oj_buildSlice (cs := [.string ⟨#[99, 117, 116]⟩, .slice (some ⟨b8, 0, none⟩) 2 2, .bool false]) [.string ⟨#[]⟩, .slice none 0 0, .bool false] Tryz.underlying35 Tryz.sizeOf39 Tryz.zeroValue39 rfl rfl (by kernel_rfl) (by kernel_rfl) rfl (fun b10 => ?_)
  refine oj_step (y_build (cs := [.string ⟨#[103, 101, 109]⟩, .slice (some ⟨b10, 0, none⟩) 1 1, .slice none 0 0, .int .i64 0]) st37 rfl (by kernel_rfl)) rfl rfl rfl ?_
  refine oj_buildSlice (cs := [.string ⟨#[114, 105, 110, 103]⟩, .slice (some ⟨b5, 0, none⟩) 2 2, .slice (some ⟨b6, 0, none⟩) 1 1, .int .i64 2, .string ⟨#[103, 101, 109]⟩, .slice (some ⟨b10, 0, none⟩) 1 1, .slice none 0 0, .int .i64 0]) [.string ⟨#[]⟩, .slice none 0 0, .slice none 0 0, .int .i64 0, .string ⟨#[]⟩, .slice none 0 0, .slice none 0 0, .int .i64 0] Tryz.underlying22 Tryz.sizeOf37 Tryz.zeroValue37 rfl rfl (by kernel_rfl) (by kernel_rfl) rfl (fun b12 => ?_)
  refine oj_step (y_assign rfl) rfl rfl rfl ?_
  refine oj_nil ?_
  refine ej_th (cj_ret ?_)
  refine ej_ret1 rfl Tryz.results17 rfl (fun w' hp => ⟨(⟨b1, b3, b5, b6, b8, b10, b12⟩, w.heap.size, w'.heap.size), rfl, hp.below, by simp, List.Pairwise.nil, fun g hg => ?_⟩)
  rw [List.mem_singleton.1 hg]
  refine ⟨⟨?_, fun c hc => ?_⟩, fun i hi => ⟨hi.1, hi.2, by simp⟩⟩
  · exact Res.of_lit (hp.lit (b := b12) (enc := encCl) (sz := 4) (gramV ⟨b1, b3, b5, b6, b8, b10, b12⟩) (fun _ => rfl) rfl (by unfold maxLen; simp))
  · simp only [List.mem_cons, List.mem_nil_iff, or_false] at hc
    rcases hc with rfl | rfl
    · refine ⟨Res.of_lit (hp.lit (b := b5) (enc := encTr) (sz := 3) (gTr1 ⟨b1, b3, b5, b6, b8, b10, b12⟩) (fun _ => rfl) rfl (by unfold maxLen; simp)), fun t ht => ?_, Res.of_lit (hp.lit (b := b6) (enc := enStr) (sz := 1) [sGem] (fun _ => rfl) rfl (by unfold maxLen; simp)), (show smS [sGem] from by decide), (show ByteArray.size sRing ≤ 9223372036854775807 from by decide)⟩
      simp only [List.mem_cons, List.mem_nil_iff, or_false] at ht
      rcases ht with rfl | rfl
      · exact ⟨Res.of_lit (hp.lit (b := b1) (enc := enStr) (sz := 1) [sGold, sSilver] (fun _ => rfl) rfl (by unfold maxLen; simp)), (show smS [sGold, sSilver] from by decide), (show ByteArray.size sMetal ≤ 9223372036854775807 from by decide)⟩
      · exact ⟨Res.of_lit (hp.lit (b := b3) (enc := enStr) (sz := 1) [sSmall, sLarge] (fun _ => rfl) rfl (by unfold maxLen; simp)), (show smS [sSmall, sLarge] from by decide), (show ByteArray.size sSize ≤ 9223372036854775807 from by decide)⟩
    · refine ⟨Res.of_lit (hp.lit (b := b10) (enc := encTr) (sz := 3) (gTr2 ⟨b1, b3, b5, b6, b8, b10, b12⟩) (fun _ => rfl) rfl (by unfold maxLen; simp)), fun t ht => ?_, Res.nil, (fun s hs => by cases hs), (show ByteArray.size sGem ≤ 9223372036854775807 from by decide)⟩
      simp only [List.mem_cons, List.mem_nil_iff, or_false] at ht
      subst ht
      exact ⟨Res.of_lit (hp.lit (b := b8) (enc := enStr) (sz := 1) [sRound, sOval] (fun _ => rfl) rfl (by unfold maxLen; simp)), (show smS [sRound, sOval] from by decide), (show ByteArray.size sCut ≤ 9223372036854775807 from by decide)⟩

set_option maxHeartbeats 1000000 in
theorem k_skillEx  (w : World)  : Calls Tryz.prog 19 #[] w (fun e w' => ∃ z : Nat × Nat × Nat × Nat × Nat, e = .returned (.agg #[.slice (at0 z.1) 2 2, .slice (at0 z.2.1) 2 2, .slice (at0 z.2.2.1) 2 2]) ∧ Grow w w' ∧ (∀ g ∈ ([] : List Fact), g.P w' ∧ ∀ b, g.fp b → w.heap.size ≤ b ∧ b < w'.heap.size) ∧ ([] : List Fact).Pairwise (fun f g => ∀ b, f.fp b → ¬ g.fp b) ∧ (∀ g ∈ [litS z.1 2 encMe mEx, litS z.2.1 1 enInt tEx, litS z.2.2.1 1 encFk (fEx z.2.2.2.1 z.2.2.2.2), litS z.2.2.2.1 2 encSp [⟨90, 93⟩, ⟨900, 1100⟩], litS z.2.2.2.2 2 encSp [⟨95, 105⟩, ⟨1016, 1030⟩]], g.P w' ∧ ∀ b, g.fp b → w.heap.size ≤ b ∧ b < w'.heap.size ∧ ∀ o ∈ ([] : List Fact), ¬ o.fp b)) := by
  refine enter_pure (args := []) [] Tryz.func19 rfl (by rw [Tryz.ntmps19]; simp) (by simp) ?_
  refine cj_seq (cj_region ?_)
  refine oj_alloc Tryz.zeroValue52 rfl rfl (fun b0 => ?_)
  refine oj_nil ?_
  refine ej_th (cj_seq (cj_region ?_))
  refine oj_step (y_build (cs := [.int .i64 2, .int .i64 1]) st98 rfl (by kernel_rfl)) rfl rfl rfl ?_
  refine oj_step (y_build (cs := [.int .i64 5, .int .i64 4]) st98 rfl (by kernel_rfl)) rfl rfl rfl ?_
  refine oj_buildSlice (cs := [.int .i64 2, .int .i64 1, .int .i64 5, .int .i64 4]) [.int .i64 0, .int .i64 0, .int .i64 0, .int .i64 0] Tryz.underlying48 Tryz.sizeOf98 Tryz.zeroValue98 rfl rfl (by kernel_rfl) (by kernel_rfl) rfl (fun b3 => ?_)
  refine oj_buildSlice (cs := [.int .i64 100, .int .i64 1000]) [.int .i64 0, .int .i64 0] Tryz.underlying49 Tryz.sizeOf3 Tryz.zeroValue3 rfl rfl (by kernel_rfl) (by kernel_rfl) rfl (fun b4 => ?_)
  refine oj_step (y_build (cs := [.int .i64 90, .int .i64 93]) st70 rfl (by kernel_rfl)) rfl rfl rfl ?_
  refine oj_step (y_build (cs := [.int .i64 900, .int .i64 1100]) st70 rfl (by kernel_rfl)) rfl rfl rfl ?_
  refine oj_buildSlice (cs := [.int .i64 90, .int .i64 93, .int .i64 900, .int .i64 1100]) [.int .i64 0, .int .i64 0, .int .i64 0, .int .i64 0] Tryz.underlying54 Tryz.sizeOf70 Tryz.zeroValue70 rfl rfl (by kernel_rfl) (by kernel_rfl) rfl (fun b7 => ?_)
  refine oj_step (y_build (cs := [.slice (some ⟨b7, 0, none⟩) 2 2]) st63 rfl (by kernel_rfl)) rfl rfl rfl ?_
  refine oj_step (y_build (cs := [.int .i64 95, .int .i64 105]) st70 rfl (by kernel_rfl)) rfl rfl rfl ?_
  refine oj_step (y_build (cs := [.int .i64 1016, .int .i64 1030]) st70 rfl (by kernel_rfl)) rfl rfl rfl ?_
  refine oj_buildSlice (cs := [.int .i64 95, .int .i64 105, .int .i64 1016, .int .i64 1030]) [.int .i64 0, .int .i64 0, .int .i64 0, .int .i64 0] Tryz.underlying54 Tryz.sizeOf70 Tryz.zeroValue70 rfl rfl (by kernel_rfl) (by kernel_rfl) rfl (fun b11 => ?_)
  refine oj_step (y_build (cs := [.slice (some ⟨b11, 0, none⟩) 2 2]) st63 rfl (by kernel_rfl)) rfl rfl rfl ?_
  refine oj_buildSlice (cs := [.slice (some ⟨b7, 0, none⟩) 2 2, .slice (some ⟨b11, 0, none⟩) 2 2]) [.slice none 0 0, .slice none 0 0] Tryz.underlying50 Tryz.sizeOf63 Tryz.zeroValue63 rfl rfl (by kernel_rfl) (by kernel_rfl) rfl (fun b13 => ?_)
  refine oj_step (y_build (cs := [.slice (some ⟨b3, 0, none⟩) 2 2, .slice (some ⟨b4, 0, none⟩) 2 2, .slice (some ⟨b13, 0, none⟩) 2 2]) st52 rfl (by kernel_rfl)) rfl rfl rfl ?_
  refine oj_store rfl rfl rfl rfl Tryz.sizeOf52 rfl ?_
  refine oj_nil ?_
  refine ej_th (cj_ret ?_)
  refine ej_retC1 rfl Tryz.results19 rfl (y_loadN Tryz.isAgg52 Tryz.sizeOf52 rfl) (fun w' hp => ⟨(b3, b4, b13, b7, b11), rfl, hp.below, by simp, List.Pairwise.nil, fun g hg => ?_⟩)
  simp only [List.mem_cons, List.mem_nil_iff, or_false] at hg
  rcases hg with rfl | rfl | rfl | rfl | rfl
  · exact hp.lit mEx (fun _ => rfl) rfl (by unfold maxLen; simp)
  · exact hp.lit tEx (fun _ => rfl) rfl (by unfold maxLen; simp)
  · exact hp.lit (fEx b7 b11) (fun _ => rfl) rfl (by unfold maxLen; simp)
  · exact hp.lit (enc := encSp) [⟨90, 93⟩, ⟨900, 1100⟩] (fun _ => rfl) rfl (by unfold maxLen; simp)
  · exact hp.lit (enc := encSp) [⟨95, 105⟩, ⟨1016, 1030⟩] (fun _ => rfl) rfl (by unfold maxLen; simp)

end Go.Proofs.YtlfbghkcfmcnlaaGreatDoor
