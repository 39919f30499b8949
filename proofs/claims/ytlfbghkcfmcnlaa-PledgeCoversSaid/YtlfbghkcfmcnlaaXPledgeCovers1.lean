/- Texts of ours, joined: 5 of them. Conditions: none. -/
import Derived.Test.YtlfbghkcfmcnlaaXPledgeCovers0
import Derived.Test.YtlfbghkcfmcnlaaProg
import Derived.Laws.StructEq
namespace Go.Proofs.Ytlfbghkcfmcnlaa
open Go.Sx Go.RowKit
set_option maxRecDepth 20000
theorem k_Less (a b : ByteArray) (w : World) (ha : a.size ≤ 9223372036854775807) : Calls Try.prog 98 #[.string a, .string b] w (fun e w' => e = .returned (.bool (ltS a b)) ∧ Grow w w') := by
  have hla := bs_len a
  have hlb := bs_len b
  refine enter_pure (args := [.string a, .string b]) [] Try.func98 rfl (by rw [Try.ntmps98]; simp) (by simp) ?_
  refine cj_seq ?_
  refine cj_regionG (gj_step (y_assign rfl) rfl rfl rfl (gj_nil ?_))
  refine ej_th (cj_seq (cj_seq ?_))
  refine cj_regionG (gj_step (y_assign rfl) rfl rfl rfl (gj_nil ?_))
  refine ej_th (cj_block ?_)
  refine cj_lpic (X := Nat) [(0, _), (1, _)] (fun k => k ≤ a.size ∧ k ≤ b.size ∧ bsl ((bsOf a).drop k) ((bsOf b).drop k) = ltS a b) (fun k => [(5, .int .i64 k)]) (fun k => a.size - k) 0 (⟨Nat.zero_le _, Nat.zero_le _, bsl_S a b⟩) ⟨rfl, rfl, rfl, trivial⟩ ?_
  rintro k ⟨hk, hk2, hsk⟩
  dsimp only [List.cons_append, List.nil_append]
  refine cj_seq (cj_seq ?_)
  refine cj_regionG (gj_step (y_move rfl) rfl rfl rfl (gj_step (y_move rfl) rfl rfl rfl (gj_step (y_lenS Try.underlying9 rfl) rfl rfl rfl (gj_step (y_lss rfl rfl) rfl rfl rfl (gj_step (y_move rfl) rfl rfl rfl (gj_g 4 10 14 rfl rfl rfl rfl (fun hg10 => gj_yes rfl rfl rfl (y_move rfl) rfl rfl (gj_yes rfl rfl rfl (y_move rfl) rfl rfl (gj_yes rfl rfl rfl (y_lenS Try.underlying9 rfl) rfl rfl (gj_yes rfl rfl rfl (y_lss rfl rfl) rfl rfl (gj_nil rfl))))) (gj_step (y_and rfl rfl rfl) rfl rfl rfl (gj_nil ?_))))))))
  refine ej_th ?_
  refine cj_cond rfl (fun h15 => ?_) (fun h15 => ?_)
  · have h15b := h15
    try simp only [sxb] at h15
    rw [Bool.and_eq_true, decide_eq_true_eq, decide_eq_true_eq] at h15b
    obtain ⟨p, hx⟩ : ∃ p, (bsOf a)[k]? = some p := ⟨_, List.getElem?_eq_getElem (by omega)⟩
    obtain ⟨q, hy⟩ : ∃ q, (bsOf b)[k]? = some q := ⟨_, List.getElem?_eq_getElem (by omega)⟩
    rw [bsl_drop _ _ k p q hx hy] at hsk
    refine cj_skip (ej_th (cj_seq (cj_block (cj_seq ?_))))
    refine cj_draw (by kernel_rfl) (by kernel_rfl) (gj_step (y_move rfl) rfl rfl rfl (gj_step (y_move rfl) rfl rfl rfl (gj_step (y_indexS Try.underlying9 rfl rfl (by omega) (bs_get hx)) rfl rfl rfl (gj_step (y_move rfl) rfl rfl rfl (gj_step (y_move rfl) rfl rfl rfl (gj_step (y_indexS Try.underlying9 rfl rfl (by omega) (bs_get hy)) rfl rfl rfl (gj_step (y_neq rfl rfl) rfl rfl rfl (gj_nil ?_))))))))
    refine ej_th ?_
    refine cj_cond rfl (fun h24 => ?_) (fun h24 => ?_)
    · have h24b := h24
      try simp only [sxb] at h24
      refine cj_seq ?_
      refine cj_draw (by kernel_rfl) (by kernel_rfl) (gj_step (y_move rfl) rfl rfl rfl (gj_step (y_move rfl) rfl rfl rfl (gj_step (y_indexS Try.underlying9 rfl rfl (by omega) (bs_get hx)) rfl rfl rfl (gj_step (y_move rfl) rfl rfl rfl (gj_step (y_move rfl) rfl rfl rfl (gj_step (y_indexS Try.underlying9 rfl rfl (by omega) (bs_get hy)) rfl rfl rfl (gj_step (y_lss rfl rfl) rfl rfl rfl (gj_step (y_assign rfl) rfl rfl rfl (gj_nil ?_)))))))))
      refine ej_th (cj_ret (ej_blk_ret (ej_then_ret (ej_then_ret (ej_blk_ret (ej_then_ret ?_))))))
      refine ej_ret1 rfl Try.results98 rfl (fun w' hp => ⟨?_, hp.below⟩)
      rw [← hsk, if_neg (by rw [u8_ne] at h24b; simpa using h24b), u8_lt]
    · have h24b := h24
      try simp only [sxb] at h24
      refine cj_skip (ej_blk (ej_th ?_))
      refine cj_regionG (gj_step (y_move rfl) rfl rfl rfl (gj_step (y_add rfl rfl (by omega)) rfl rfl rfl (gj_step (y_assign rfl) rfl rfl rfl (gj_nil ?_))))
      exact ej_nx (k + 1) (by omega) ⟨by omega, by omega, by rw [← hsk, if_pos (by rw [u8_ne] at h24b; simpa using h24b)]⟩ ⟨rfl, rfl, rfl, trivial⟩
  · have h15b := h15
    try simp only [sxb] at h15
    rw [Bool.and_eq_false_iff, decide_eq_false_iff_not, decide_eq_false_iff_not] at h15b
    refine cj_exit (ej_then_exit (ej_then_exit (ej_blk_hit (ej_th (cj_seq ?_)))))
    refine cj_regionG (gj_step (y_move rfl) rfl rfl rfl (gj_step (y_lenS Try.underlying9 rfl) rfl rfl rfl (gj_step (y_move rfl) rfl rfl rfl (gj_step (y_lenS Try.underlying9 rfl) rfl rfl rfl (gj_step (y_lss rfl rfl) rfl rfl rfl (gj_step (y_assign rfl) rfl rfl rfl (gj_nil ?_)))))))
    refine ej_th (cj_ret ?_)
    refine ej_ret1 rfl Try.results98 rfl (fun w' hp => ⟨?_, hp.below⟩)
    rw [← hsk, bsl_end _ _ k (by omega) (by omega) (by omega), hla, hlb]

theorem k_OwnTexts (l : List ByteArray) (A : Option Addr) (c : Nat) (w : World) (hl : Rd w 1 enStr A l) (h8 : l.length ≤ 1000000) : Calls Try.prog 81 #[.slice A l.length c] w (fun e w' => ∃ B d, e = .returned (.slice B l.length d) ∧ Grow w w' ∧ (ow 9 1 enStr B d l).P w' ∧ ∀ b, (ow 9 1 enStr B d l).fp b → w.heap.size ≤ b) := by
  refine enter_pure (args := [.slice A l.length c]) [sl (fun b => b < w.heap.size) 1 enStr A l] Try.func81 rfl (by rw [Try.ntmps81]; simp) (fun g hg => by simp at hg; subst hg; exact ⟨hl, fun _ h => h⟩) ?_
  refine cj_seq ?_
  refine cj_regionG (gj_step (y_assign rfl) rfl rfl rfl (gj_nil ?_))
  refine ej_th (cj_seq (cj_region ?_))
  refine oj_buildSlice (cs := []) [] Try.underlying23 Try.sizeOf9 Try.zeroValue9 rfl rfl (by kernel_rfl) (by kernel_rfl) rfl (fun b3 => ?_)
  refine oj_litOw (b := b3) (e := 9) (c := 0) (sz := 1) (enc := enStr) [] rfl rfl rfl (by unfold maxLen; simp) ?_
  refine oj_step (y_move rfl) rfl rfl rfl ?_
  refine oj_append (xs := ([] : List ByteArray)) (c := 0) el23 (fun _ => rfl) enStr_one rfl rfl rfl (reads_sl) (by unfold maxLen; simp only [List.length_nil]; omega) (by simp only [List.length_nil]; omega) rfl (fun A5 c5 => ?_)
  refine oj_step (y_assign rfl) rfl rfl rfl ?_
  refine oj_nil ?_
  refine ej_th (cj_ret ?_)
  exact ej_ret1 rfl Try.results81 rfl (fun w' hp => ⟨A5, c5, by simp, hp.below, by have h9 := hp.resO (A := A5) (e := 9) (c := c5) (sz := 1) (enc := enStr) (xs := [] ++ l); simpa using h9⟩)

set_option maxHeartbeats 2000000 in
theorem k_rtext1 (l : List ClassV) (A : Option Addr) (c : Nat) (x : ItemV) (w : World) (hl : Rd w 4 encCl A l) (hgc : ∀ c ∈ l, GoodC w c) (hgo : gramOk l = true) (hx : GoodI w x) (ho : OkT (gramM l) x.pl) (hcn : cntT x.pl ≤ 24) (ih : ∀ p ∈ x.parts, ∀ (w1 : World), Grow w w1 → Calls Try.prog 99 #[.slice A l.length c, evI p] w1 (fun e w' => e = .returned (.string (txtT (gramM l) p.pl)) ∧ Grow w1 w')) : Calls Try.prog 99 #[.slice A l.length c, evI x] w (fun e w' => e = .returned (.string (txtT (gramM l) x.pl)) ∧ Grow w w') := by
  have hl1 := hx.rs.len
  have hl2 := hx.rp.len
  obtain ⟨cc, hgc0, hsl, ht8, htn⟩ := ho.get
  rw [pl_cls] at hgc0
  rw [pl_says] at hsl
  have hcc : clsOf l x.cls = some cc := by rw [← getL_gram hgo]; exact hgc0
  have hcm : cc ∈ l := List.mem_of_find?_eq_some hcc
  have hg1 := hgc cc hcm
  have htr : traitsOf (gramM l) x.cls = cc.traits := by unfold traitsOf; rw [hgc0]; rfl
  have hTX := txt_eq (gramM l) x.pl
  rw [pl_cls, htr, pl_says] at hTX
  have hsz := txt_size ho hcn
  have hss16 : ∀ s ∈ x.says, s.size ≤ 16 := by have := ho.ssz; rw [pl_says] at this; exact this
  obtain ⟨TX, hTXe⟩ : ∃ T, T = txtT (gramM l) x.pl := ⟨_, rfl⟩
  obtain ⟨ET, hET⟩ : ∃ E, E = bl (if x.pl.parts.length = 0 then [] else [tClose]) := ⟨_, rfl⟩
  rw [← hTXe] at hTX hsz ⊢
  rw [← hET] at hTX
  refine enter_pure (args := [.slice A l.length c, evI x]) [sl (fun b => b < w.heap.size) 4 encCl A l] Try.func99 rfl (by rw [Try.ntmps99]; simp) (fun g hg => by simp at hg; subst hg; exact ⟨hl, fun _ h => h⟩) ?_
  refine cj_seq (cj_region ?_)
  refine oj_box rfl rfl rfl (fun b3 => ?_)
  refine oj_step (y_assign rfl) rfl rfl rfl ?_
  refine oj_nil ?_
  refine ej_th (cj_seq (cj_region ?_))
  refine oj_step (y_move rfl) rfl rfl rfl ?_
  refine oj_step (y_loadN Try.isAgg26 Try.sizeOf26 rfl) rfl rfl rfl ?_
  refine oj_step (y_call Try.call115 rfl (fun w hp => by have h := k_class l A c x w hp.rd hgo; rw [hcc] at h; exact (show Calls Try.prog 115 _ w (fun e w' => e = .returned (.tuple #[evC cc, .bool true]) ∧ Grow w w') from h))) rfl rfl rfl ?_
  refine oj_step (y_move rfl) rfl rfl rfl ?_
  refine oj_step (y_extract rfl rfl) rfl rfl rfl ?_
  refine oj_step (y_extract rfl rfl) rfl rfl rfl ?_
  refine oj_alloc Try.zeroValue114 rfl rfl (fun b5 => ?_)
  refine oj_store rfl rfl rfl rfl Try.sizeOf114 rfl ?_
  refine oj_step (y_assign rfl) rfl rfl rfl ?_
  refine oj_nil ?_
  refine ej_th (cj_seq ?_)
  refine cj_rd hx.rs (fun _ h => h) ?_
  refine cj_rd hx.rp (fun _ h => h) ?_
  refine cj_rd hg1.rt (fun _ h => h) ?_
  refine cj_regionG (gj_step (y_fa0 fa26_0 rfl) rfl rfl rfl (gj_step (y_load1 Try.isAgg9 rfl rfl) rfl rfl rfl (gj_step (y_assign rfl) rfl rfl rfl (gj_nil ?_))))
  refine ej_th (cj_seq (cj_seq ?_))
  refine cj_regionG (gj_step (y_assign rfl) rfl rfl rfl (gj_nil ?_))
  refine ej_th (cj_block ?_)
  refine cj_lpic (X := Nat × ByteArray) [(0, _), (3, _), (4, _), (5, _)] (fun ⟨k, s⟩ => k ≤ x.says.length ∧ s ++ (bl (saidTok (cc.traits.drop k) (x.says.drop k)) ++ (bl (tokP (gramM l) true x.pl.parts) ++ ET)) = TX) (fun ⟨k, s⟩ => [(7, .string s), (8, .int .i64 k)]) (fun ⟨k, s⟩ => x.says.length - k) (0, x.cls) (⟨Nat.zero_le _, hTX.symm⟩) ⟨rfl, rfl, rfl, rfl, rfl, rfl, trivial⟩ ?_
  rintro ⟨k, s⟩ ⟨hk, hin⟩
  dsimp only [List.cons_append, List.nil_append]
  have hss : s.size ≤ 10000 := by
    have h9 := congrArg ByteArray.size hin
    rw [ByteArray.size_append] at h9
    omega
  refine cj_seq (cj_seq ?_)
  refine cj_regionG (gj_step (y_move rfl) rfl rfl rfl (gj_step (y_fa fa26_1 rfl) rfl rfl rfl (gj_step (y_load1 Try.isAgg23 rfl rfl) rfl rfl rfl (gj_step (y_lenA Try.underlying23 rfl) rfl rfl rfl (gj_step (y_lss rfl rfl) rfl rfl rfl (gj_nil ?_))))))
  refine ej_th ?_
  refine cj_cond rfl (fun h22 => ?_) (fun h22 => ?_)
  · have h22b := h22
    try simp only [sxb] at h22
    obtain ⟨t, ht⟩ : ∃ t, cc.traits[k]? = some t := ⟨_, List.getElem?_eq_getElem (by omega)⟩
    obtain ⟨sv, hs⟩ : ∃ sv, x.says[k]? = some sv := ⟨_, List.getElem?_eq_getElem (by omega)⟩
    rw [saidTok_drop _ _ k t sv ht hs] at hin
    refine cj_skip (ej_th (cj_seq (cj_block (cj_seq ?_))))
    refine cj_regionG (gj_step (y_fa fa26_1 rfl) rfl rfl rfl (gj_step (y_load1 Try.isAgg23 rfl rfl) rfl rfl rfl (gj_step (y_move rfl) rfl rfl rfl (gj_step (y_ixR (reads_sl) Try.underlying23 Try.sizeOf9 rfl rfl (⟨by omega, by omega⟩)) rfl rfl rfl (gj_step (y_ld0 (reads_sl) Try.isAgg9 rfl (hs) rfl) rfl rfl rfl (gj_step (y_neqS rfl rfl) rfl rfl rfl (gj_nil ?_)))))))
    refine ej_th ?_
    refine cj_cond rfl (fun h30 => ?_) (fun h30 => ?_)
    · have h30b := h30
      try simp only [sxb] at h30
      rw [if_neg (show ¬ (sv == (⟨#[]⟩ : ByteArray)) = true by rw [not_t h30b]; simp), bl_cons] at hin
      refine cj_draw (by kernel_rfl) (by kernel_rfl) (gj_step (y_move rfl) rfl rfl rfl (gj_step (y_addS rfl rfl (by (try simp only [ByteArray.size_append]); have h1s : (⟨#[32]⟩ : ByteArray).size = 1 := rfl; have h2s : (⟨#[61]⟩ : ByteArray).size = 1 := rfl; have h3s : (⟨#[32, 40]⟩ : ByteArray).size = 2 := rfl; have h4s : (⟨#[32, 59]⟩ : ByteArray).size = 2 := rfl; have h5s : (⟨#[32, 41]⟩ : ByteArray).size = 2 := rfl; omega)) rfl rfl rfl (gj_step (y_fa fa114_1 rfl) rfl rfl rfl (gj_step (y_load1 Try.isAgg112 rfl rfl) rfl rfl rfl (gj_step (y_move rfl) rfl rfl rfl (gj_step (y_ixR (reads_sl) Try.underlying112 Try.sizeOf116 rfl rfl (⟨by omega, by omega⟩)) rfl rfl rfl (gj_step (y_faE fa116_0 rfl) rfl rfl rfl (gj_step (y_ld1 (reads_sl) Try.isAgg9 rfl (ht) rfl) rfl rfl rfl (gj_step (y_addS rfl rfl (by (try simp only [ByteArray.size_append]); have h1s : (⟨#[32]⟩ : ByteArray).size = 1 := rfl; have h2s : (⟨#[61]⟩ : ByteArray).size = 1 := rfl; have h3s : (⟨#[32, 40]⟩ : ByteArray).size = 2 := rfl; have h4s : (⟨#[32, 59]⟩ : ByteArray).size = 2 := rfl; have h5s : (⟨#[32, 41]⟩ : ByteArray).size = 2 := rfl; have h9 := htn t (List.mem_of_getElem? ht); omega)) rfl rfl rfl (gj_step (y_addS rfl rfl (by (try simp only [ByteArray.size_append]); have h1s : (⟨#[32]⟩ : ByteArray).size = 1 := rfl; have h2s : (⟨#[61]⟩ : ByteArray).size = 1 := rfl; have h3s : (⟨#[32, 40]⟩ : ByteArray).size = 2 := rfl; have h4s : (⟨#[32, 59]⟩ : ByteArray).size = 2 := rfl; have h5s : (⟨#[32, 41]⟩ : ByteArray).size = 2 := rfl; have h9 := htn t (List.mem_of_getElem? ht); omega)) rfl rfl rfl (gj_step (y_fa fa26_1 rfl) rfl rfl rfl (gj_step (y_load1 Try.isAgg23 rfl rfl) rfl rfl rfl (gj_step (y_move rfl) rfl rfl rfl (gj_step (y_ixR (reads_sl) Try.underlying23 Try.sizeOf9 rfl rfl (⟨by omega, by omega⟩)) rfl rfl rfl (gj_step (y_ld0 (reads_sl) Try.isAgg9 rfl (hs) rfl) rfl rfl rfl (gj_step (y_addS rfl rfl (by (try simp only [ByteArray.size_append]); have h1s : (⟨#[32]⟩ : ByteArray).size = 1 := rfl; have h2s : (⟨#[61]⟩ : ByteArray).size = 1 := rfl; have h3s : (⟨#[32, 40]⟩ : ByteArray).size = 2 := rfl; have h4s : (⟨#[32, 59]⟩ : ByteArray).size = 2 := rfl; have h5s : (⟨#[32, 41]⟩ : ByteArray).size = 2 := rfl; have h9 := htn t (List.mem_of_getElem? ht); have h8 := hss16 sv (List.mem_of_getElem? hs); omega)) rfl rfl rfl (gj_step (y_assign rfl) rfl rfl rfl (gj_nil ?_))))))))))))))))))
      refine ej_blk (ej_th ?_)
      refine cj_regionG (gj_step (y_move rfl) rfl rfl rfl (gj_step (y_add rfl rfl (by omega)) rfl rfl rfl (gj_step (y_assign rfl) rfl rfl rfl (gj_nil ?_))))
      exact ej_nx (k + 1, s ++ tBl ++ t.name ++ tEq ++ sv) (by simp only; omega) ⟨by first | omega | (simp only; omega), by rw [← hin]; simp only [ByteArray.append_assoc]⟩ ⟨rfl, rfl, rfl, rfl, rfl, rfl, trivial⟩
    · have h30b := h30
      try simp only [sxb] at h30
      rw [if_pos (not_f h30b)] at hin
      refine cj_skip (ej_blk (ej_th ?_))
      refine cj_regionG (gj_step (y_move rfl) rfl rfl rfl (gj_step (y_add rfl rfl (by omega)) rfl rfl rfl (gj_step (y_assign rfl) rfl rfl rfl (gj_nil ?_))))
      exact ej_nx (k + 1, s) (by simp only; omega) ⟨by first | omega | (simp only; omega), hin⟩ ⟨rfl, rfl, rfl, rfl, rfl, rfl, trivial⟩
  · have h22b := h22
    try simp only [sxb] at h22
    have hin2 : s ++ (bl (tokP (gramM l) true x.pl.parts) ++ ET) = TX := by
      rw [← hin, List.drop_of_length_le (show x.says.length ≤ k by omega), show saidTok (cc.traits.drop k) [] = [] by cases cc.traits.drop k <;> simp [saidTok], bl, nil_ba]
    refine cj_exit (ej_then_exit (ej_then_exit (ej_blk_hit (ej_th (cj_seq (cj_seq ?_))))))
    refine cj_regionG (gj_step (y_assign rfl) rfl rfl rfl (gj_nil ?_))
    refine ej_th (cj_block ?_)
    refine cj_lpic (X := Nat × ByteArray) [(0, _), (3, _), (4, _)] (fun ⟨j, s⟩ => j ≤ x.parts.length ∧ s ++ (bl (tokP (gramM l) (decide (j = 0)) (x.pl.parts.drop j)) ++ ET) = TX) (fun ⟨j, s⟩ => [(7, .string s), (9, .int .i64 j)]) (fun ⟨j, s⟩ => x.parts.length - j) (0, s) (⟨Nat.zero_le _, hin2⟩) ⟨rfl, rfl, rfl, rfl, rfl, trivial⟩ ?_
    rintro ⟨j, s⟩ ⟨hj, hin⟩
    dsimp only [List.cons_append, List.nil_append]
    have hss : s.size ≤ 10000 := by
      have h9 := congrArg ByteArray.size hin
      rw [ByteArray.size_append] at h9
      omega
    refine cj_seq (cj_seq ?_)
    refine cj_regionG (gj_step (y_move rfl) rfl rfl rfl (gj_step (y_fa fa26_2 rfl) rfl rfl rfl (gj_step (y_load1 Try.isAgg24 rfl rfl) rfl rfl rfl (gj_step (y_lenA Try.underlying24 rfl) rfl rfl rfl (gj_step (y_lss rfl rfl) rfl rfl rfl (gj_nil ?_))))))
    refine ej_th ?_
    refine cj_cond rfl (fun h51 => ?_) (fun h51 => ?_)
    · have h51b := h51
      try simp only [sxb] at h51
      obtain ⟨q, hq⟩ : ∃ q, x.parts[j]? = some q := ⟨_, List.getElem?_eq_getElem (by omega)⟩
      have hpq : x.pl.parts[j]? = some q.pl := by rw [pl_parts, List.getElem?_map, hq]; rfl
      rw [tokP_drop _ _ j q.pl hpq, bl_cons, bl_append, tok_bl] at hin
      have hqm : q.pl ∈ x.pl.parts := List.mem_of_getElem? hpq
      have hqo := ho.pt _ hqm
      have hqc : cntT q.pl ≤ 24 := by have h1 := cntL_mem _ _ hqm; have h2 := cntT_eq x.pl; omega
      refine cj_skip (ej_th (cj_seq (cj_block (cj_seq (cj_seq ?_)))))
      refine cj_regionG (gj_step (y_move rfl) rfl rfl rfl (gj_step (y_eql rfl rfl) rfl rfl rfl (gj_nil ?_)))
      refine ej_th ?_
      refine cj_cond rfl (fun h55 => ?_) (fun h55 => ?_)
      · have h55b := h55
        try simp only [sxb] at h55
        have hj0 : j = 0 := by simpa using h55b
        rw [if_pos hj0] at hin
        refine cj_regionG (gj_step (y_move rfl) rfl rfl rfl (gj_step (y_addS rfl rfl (by (try simp only [ByteArray.size_append]); have h1s : (⟨#[32]⟩ : ByteArray).size = 1 := rfl; have h2s : (⟨#[61]⟩ : ByteArray).size = 1 := rfl; have h3s : (⟨#[32, 40]⟩ : ByteArray).size = 2 := rfl; have h4s : (⟨#[32, 59]⟩ : ByteArray).size = 2 := rfl; have h5s : (⟨#[32, 41]⟩ : ByteArray).size = 2 := rfl; omega)) rfl rfl rfl (gj_step (y_assign rfl) rfl rfl rfl (gj_nil ?_))))
        refine ej_th ?_
        refine cj_regionG ?_
        refine gj_step (y_move rfl) rfl rfl rfl (gj_step (y_addS rfl rfl (by (try simp only [ByteArray.size_append]); have h1s : (⟨#[32]⟩ : ByteArray).size = 1 := rfl; have h2s : (⟨#[61]⟩ : ByteArray).size = 1 := rfl; have h3s : (⟨#[32, 40]⟩ : ByteArray).size = 2 := rfl; have h4s : (⟨#[32, 59]⟩ : ByteArray).size = 2 := rfl; have h5s : (⟨#[32, 41]⟩ : ByteArray).size = 2 := rfl; omega)) rfl rfl rfl (gj_step (y_move rfl) rfl rfl rfl (gj_step (y_fa fa26_2 rfl) rfl rfl rfl (gj_step (y_load1 Try.isAgg24 rfl rfl) rfl rfl rfl (gj_step (y_move rfl) rfl rfl rfl (gj_step (y_ixR (reads_sl) Try.underlying24 Try.sizeOf26 rfl rfl (⟨by omega, by omega⟩)) rfl rfl rfl (gj_step (y_ldW (reads_sl) Try.isAgg26 Try.sizeOf26 rfl (hq) (fun _ => rfl)) rfl rfl rfl (?_))))))))
        refine gj_step (y_call Try.call99 rfl (fun w hp => ih q (List.mem_of_getElem? hq) w hp.below)) rfl rfl rfl ?_
        refine gj_step (y_addS rfl rfl (by (try simp only [ByteArray.size_append]); have h1s : (⟨#[32]⟩ : ByteArray).size = 1 := rfl; have h2s : (⟨#[61]⟩ : ByteArray).size = 1 := rfl; have h3s : (⟨#[32, 40]⟩ : ByteArray).size = 2 := rfl; have h4s : (⟨#[32, 59]⟩ : ByteArray).size = 2 := rfl; have h5s : (⟨#[32, 41]⟩ : ByteArray).size = 2 := rfl; have hqz := txt_size hqo hqc; omega)) rfl rfl rfl (gj_step (y_assign rfl) rfl rfl rfl (?_))
        refine gj_nil ?_
        refine ej_blk (ej_th ?_)
        refine cj_regionG (gj_step (y_move rfl) rfl rfl rfl (gj_step (y_add rfl rfl (by omega)) rfl rfl rfl (gj_step (y_assign rfl) rfl rfl rfl (gj_nil ?_))))
        exact ej_nx (j + 1, s ++ ⟨#[32, 40]⟩ ++ tBl ++ txtT (gramM l) q.pl) (by simp only; omega) ⟨by first | omega | (simp only; omega), by rw [← hin, show (⟨#[32, 40]⟩ : ByteArray) = tBl ++ tOpen from rfl]; simp only [ByteArray.append_assoc]⟩ ⟨rfl, rfl, rfl, rfl, rfl, trivial⟩
      · have h55b := h55
        try simp only [sxb] at h55
        have hj0 : ¬ j = 0 := by simpa using h55b
        rw [if_neg hj0] at hin
        refine cj_regionG (gj_step (y_move rfl) rfl rfl rfl (gj_step (y_addS rfl rfl (by (try simp only [ByteArray.size_append]); have h1s : (⟨#[32]⟩ : ByteArray).size = 1 := rfl; have h2s : (⟨#[61]⟩ : ByteArray).size = 1 := rfl; have h3s : (⟨#[32, 40]⟩ : ByteArray).size = 2 := rfl; have h4s : (⟨#[32, 59]⟩ : ByteArray).size = 2 := rfl; have h5s : (⟨#[32, 41]⟩ : ByteArray).size = 2 := rfl; omega)) rfl rfl rfl (gj_step (y_assign rfl) rfl rfl rfl (gj_nil ?_))))
        refine ej_th ?_
        refine cj_regionG ?_
        refine gj_step (y_move rfl) rfl rfl rfl (gj_step (y_addS rfl rfl (by (try simp only [ByteArray.size_append]); have h1s : (⟨#[32]⟩ : ByteArray).size = 1 := rfl; have h2s : (⟨#[61]⟩ : ByteArray).size = 1 := rfl; have h3s : (⟨#[32, 40]⟩ : ByteArray).size = 2 := rfl; have h4s : (⟨#[32, 59]⟩ : ByteArray).size = 2 := rfl; have h5s : (⟨#[32, 41]⟩ : ByteArray).size = 2 := rfl; omega)) rfl rfl rfl (gj_step (y_move rfl) rfl rfl rfl (gj_step (y_fa fa26_2 rfl) rfl rfl rfl (gj_step (y_load1 Try.isAgg24 rfl rfl) rfl rfl rfl (gj_step (y_move rfl) rfl rfl rfl (gj_step (y_ixR (reads_sl) Try.underlying24 Try.sizeOf26 rfl rfl (⟨by omega, by omega⟩)) rfl rfl rfl (gj_step (y_ldW (reads_sl) Try.isAgg26 Try.sizeOf26 rfl (hq) (fun _ => rfl)) rfl rfl rfl (?_))))))))
        refine gj_step (y_call Try.call99 rfl (fun w hp => ih q (List.mem_of_getElem? hq) w hp.below)) rfl rfl rfl ?_
        refine gj_step (y_addS rfl rfl (by (try simp only [ByteArray.size_append]); have h1s : (⟨#[32]⟩ : ByteArray).size = 1 := rfl; have h2s : (⟨#[61]⟩ : ByteArray).size = 1 := rfl; have h3s : (⟨#[32, 40]⟩ : ByteArray).size = 2 := rfl; have h4s : (⟨#[32, 59]⟩ : ByteArray).size = 2 := rfl; have h5s : (⟨#[32, 41]⟩ : ByteArray).size = 2 := rfl; have hqz := txt_size hqo hqc; omega)) rfl rfl rfl (gj_step (y_assign rfl) rfl rfl rfl (?_))
        refine gj_nil ?_
        refine ej_blk (ej_th ?_)
        refine cj_regionG (gj_step (y_move rfl) rfl rfl rfl (gj_step (y_add rfl rfl (by omega)) rfl rfl rfl (gj_step (y_assign rfl) rfl rfl rfl (gj_nil ?_))))
        exact ej_nx (j + 1, s ++ ⟨#[32, 59]⟩ ++ tBl ++ txtT (gramM l) q.pl) (by simp only; omega) ⟨by first | omega | (simp only; omega), by rw [← hin, show (⟨#[32, 59]⟩ : ByteArray) = tBl ++ tSemi from rfl]; simp only [ByteArray.append_assoc]⟩ ⟨rfl, rfl, rfl, rfl, rfl, trivial⟩
    · have h51b := h51
      try simp only [sxb] at h51
      have hin3 : s ++ ET = TX := by
        rw [← hin, List.drop_of_length_le (show x.pl.parts.length ≤ j by rw [pl_parts, List.length_map]; omega), tokP, bl, nil_ba]
      refine cj_exit (ej_then_exit (ej_then_exit (ej_blk_hit (ej_th (cj_seq (cj_seq ?_))))))
      refine cj_regionG (gj_step (y_fa fa26_2 rfl) rfl rfl rfl (gj_step (y_load1 Try.isAgg24 rfl rfl) rfl rfl rfl (gj_step (y_lenA Try.underlying24 rfl) rfl rfl rfl (gj_step (y_gtr rfl rfl) rfl rfl rfl (gj_nil ?_)))))
      refine ej_th ?_
      refine cj_cond rfl (fun h73 => ?_) (fun h73 => ?_)
      · have h73b := h73
        try simp only [sxb] at h73
        rw [if_neg (by rw [pl_parts, List.length_map]; omega)] at hET
        refine cj_regionG (gj_step (y_move rfl) rfl rfl rfl (gj_step (y_addS rfl rfl (by (try simp only [ByteArray.size_append]); have h1s : (⟨#[32]⟩ : ByteArray).size = 1 := rfl; have h2s : (⟨#[61]⟩ : ByteArray).size = 1 := rfl; have h3s : (⟨#[32, 40]⟩ : ByteArray).size = 2 := rfl; have h4s : (⟨#[32, 59]⟩ : ByteArray).size = 2 := rfl; have h5s : (⟨#[32, 41]⟩ : ByteArray).size = 2 := rfl; omega)) rfl rfl rfl (gj_step (y_assign rfl) rfl rfl rfl (gj_nil ?_))))
        refine ej_th (cj_seq ?_)
        refine cj_regionG (gj_step (y_move rfl) rfl rfl rfl (gj_step (y_assign rfl) rfl rfl rfl (gj_nil ?_)))
        refine ej_th (cj_ret ?_)
        refine ej_ret1 rfl Try.results99 rfl (fun w' hp => ⟨?_, hp.below⟩)
        rw [← hin3, hET, show (⟨#[32, 41]⟩ : ByteArray) = tBl ++ tClose from rfl, bl, bl, ba_nil, ← ByteArray.append_assoc]
      · have h73b := h73
        try simp only [sxb] at h73
        rw [if_pos (by rw [pl_parts, List.length_map]; omega)] at hET
        refine cj_skip (ej_th (cj_seq ?_))
        refine cj_regionG (gj_step (y_move rfl) rfl rfl rfl (gj_step (y_assign rfl) rfl rfl rfl (gj_nil ?_)))
        refine ej_th (cj_ret ?_)
        refine ej_ret1 rfl Try.results99 rfl (fun w' hp => ⟨?_, hp.below⟩)
        rw [← hin3, hET, bl, ba_nil]

theorem k_rtext (l : List ClassV) (A : Option Addr) (c : Nat) {w0 : World} {x : ItemV} (hx : GoodI w0 x) : ∀ (w : World), Grow w0 w → gramOk l = true → Rd w 4 encCl A l → (∀ c ∈ l, GoodC w c) → OkT (gramM l) x.pl → cntT x.pl ≤ 24 → Calls Try.prog 99 #[.slice A l.length c, evI x] w (fun e w' => e = .returned (.string (txtT (gramM l) x.pl)) ∧ Grow w w') := by
  induction hx with
  | @mk x hs hp hn hm hr ih =>
    intro w hg hgo hl hgc ho hc
    refine k_rtext1 l A c x w hl hgc hgo ((GoodI.mk hs hp hn hm hr).mono hg) ho hc (fun p hpm w1 hg1 => ?_)
    have hpo : p.pl ∈ x.pl.parts := by rw [pl_parts]; exact List.mem_map.2 ⟨p, hpm, rfl⟩
    have hcp : cntT p.pl ≤ 24 := by have h1 := cntL_mem _ _ hpo; have h2 := cntT_eq x.pl; omega
    exact ih p hpm w1 (grow_trans hg hg1) hgo (hl.mono hg1) (fun q hq => (hgc q hq).mono hg1) (ho.pt _ hpo) hcp

end Go.Proofs.Ytlfbghkcfmcnlaa
namespace Go.Proofs.Ytlfbghkcfmcnlaa
open Go.Sx Go.RowKit
set_option maxRecDepth 20000

end Go.Proofs.Ytlfbghkcfmcnlaa
namespace Go.Proofs.Ytlfbghkcfmcnlaa
open Go.Sx Go.RowKit
set_option maxRecDepth 20000
theorem hp_its {F : Nat → Prop} {w0 w : World} {O S : List Fact} (hp : Hp F w0 O S w) (fp : Nat → Prop) (l : List ItemV) [h : MemS (itF fp l) S] : ∀ x ∈ l, GoodI w x := it_good hp h.mem

set_option maxHeartbeats 4000000 in
theorem k_rsort1 (l : List ClassV) (A : Option Addr) (c : Nat) (x : ItemV) (w : World) (hl : Rd w 4 encCl A l) (hgc : ∀ c ∈ l, GoodC w c) (hgo : gramOk l = true) (hx : GoodI w x) (ho : OkT (gramM l) x.pl) (hcn : cntT x.pl ≤ 24) (ih : ∀ p ∈ x.parts, ∀ (w1 : World), Grow w w1 → Calls Try.prog 54 #[.slice A l.length c, evI p] w1 (fun e w' => ∃ y : ItemV, e = .returned (evI y) ∧ Grow w1 w' ∧ y.pl = sortT (gramM l) p.pl ∧ GoodF (fun i => w1.heap.size ≤ i ∧ i < w'.heap.size) w' y)) : Calls Try.prog 54 #[.slice A l.length c, evI x] w (fun e w' => ∃ y : ItemV, e = .returned (evI y) ∧ Grow w w' ∧ y.pl = sortT (gramM l) x.pl ∧ GoodF (fun i => w.heap.size ≤ i ∧ i < w'.heap.size) w' y) := by
  have hl1 := hx.rs.len
  have hl2 := hx.rp.len
  have hp6 : x.parts.length ≤ 6 := by have := ho.few; rw [pl_parts, List.length_map] at this; exact this
  obtain ⟨cc, hgc0, hsl, ht8, htn⟩ := ho.get
  rw [pl_says] at hsl
  refine enter_pure (args := [.slice A l.length c, evI x]) [sl (fun b => b < w.heap.size) 4 encCl A l] Try.func54 rfl (by rw [Try.ntmps54]; simp) (fun g hg => by simp at hg; subst hg; exact ⟨hl, fun _ h => h⟩) ?_
  refine cj_seq (cj_region ?_)
  refine oj_box rfl rfl rfl (fun b3 => ?_)
  refine oj_alloc Try.zeroValue26 rfl rfl (fun b4 => ?_)
  refine oj_nil ?_
  refine ej_th ?_
  refine cj_cuti (X := Nat × Option Addr × Nat × (Nat → Prop)) [(0, _), (3, _), (4, _)] ⟨rfl, rfl, rfl, trivial⟩ (fun ⟨b5, A14, c14, fp14⟩ => ∀ i, fp14 i → w.heap.size ≤ i) (fun ⟨b5, A14, c14, fp14⟩ => [(5, .pointer (some ⟨b5, 0, none⟩))]) (fun ⟨b5, A14, c14, fp14⟩ => [ownB b5 (cellsB 26 [.string x.cls, .slice A14 x.says.length c14, .slice none 0 0]), ownB b4 (cellsB 26 [.string ⟨#[]⟩, .slice none 0 0, .slice none 0 0]), ownB b3 (cellsB 26 [.string x.cls, .slice x.As x.says.length x.cs, .slice x.Ap x.parts.length x.cp])]) (fun ⟨b5, A14, c14, fp14⟩ => [sl fp14 1 enStr A14 x.says, sl (fun b => b < w.heap.size) 4 encCl A l]) ?_ ?_
  · refine cj_rd hx.rs (fun _ h => h) ?_
    refine cj_plan 8 (by kernel_rfl) (by kernel_rfl) ?_
    refine pl_y 0 rfl (y_fa0 fa26_0 rfl) rfl rfl rfl rfl (by kernel_rfl) ?_
    refine pl_y 1 rfl (y_load1 Try.isAgg9 rfl rfl) rfl rfl rfl rfl (by kernel_rfl) ?_
    refine pl_y 2 rfl (y_fa fa26_1 rfl) rfl rfl rfl rfl (by kernel_rfl) ?_
    refine pl_y 3 rfl (y_load1 Try.isAgg23 rfl rfl) rfl rfl rfl rfl (by kernel_rfl) ?_
    refine pl_w2 4 6 (by kernel_rfl) rfl rfl (pl_fire rfl rfl rfl (by kernel_rfl) ?_) (pl_fire rfl rfl rfl (by kernel_rfl) ?_)
    · refine oj_callS (fun A c => .slice A x.says.length c) 1 enStr x.says Try.call81 rfl (fun w hp => (k_OwnTexts x.says x.As x.cs w hp.rd (by omega)).mono fun e w' ⟨B, d, he, hg, hO, hn⟩ => ⟨B, d, he, hg, by unfold maxLen; omega, fun hne => by
        obtain ⟨a, ha, hc⟩ := ow_cells hO (fun _ => rfl) hne
        refine ⟨a, ha, ⟨hn a.block (by rw [ha]; rfl), ?_⟩, hc⟩
        exact ow_lt hO hne a.block (by rw [ha]; rfl)⟩) rfl (fun A14 c14 fp14 hfp14 => ?_)
      refine oj_nil ?_
      refine ej_pl (lt_w (by kernel_rfl) (lt_y (y_fa fa26_1 rfl) rfl (lt_y (y_load1 Try.isAgg9 rfl rfl) rfl (lt_y (y_fa0 fa26_0 rfl) rfl (lt_nil))))) ?_
      refine pl_y 5 rfl (y_build (cs := [.string x.cls, .slice A14 x.says.length c14, .slice none 0 0]) st26 rfl (by kernel_rfl)) rfl rfl rfl rfl (by kernel_rfl) ?_
      refine pl_w1 6 (by kernel_rfl) rfl rfl (pl_fire rfl rfl rfl (by kernel_rfl) ?_)
      refine oj_alloc Try.zeroValue26 rfl rfl (fun b5 => ?_)
      refine oj_nil ?_
      refine ej_pl (lt_y (y_build (cs := [.string x.cls, .slice A14 x.says.length c14, .slice none 0 0]) st26 rfl (by kernel_rfl)) rfl (lt_y (y_load1 Try.isAgg23 rfl rfl) rfl (lt_y (y_fa fa26_1 rfl) rfl (lt_y (y_load1 Try.isAgg9 rfl rfl) rfl (lt_y (y_fa0 fa26_0 rfl) rfl (lt_nil)))))) ?_
      refine pl_w1 7 (by kernel_rfl) rfl rfl (pl_fire rfl rfl rfl (by kernel_rfl) ?_)
      refine oj_store rfl rfl rfl rfl Try.sizeOf26 rfl ?_
      refine oj_nil ?_
      refine ej_pl (lt_w (by kernel_rfl) (lt_w (by kernel_rfl) (lt_w (by kernel_rfl) (lt_w (by kernel_rfl) (lt_w (by kernel_rfl) (lt_nil)))))) ?_
      refine pl_end (by kernel_rfl) ?_
      exact ej_ct ⟨b5, A14, c14, fp14⟩ hfp14 ⟨rfl, rfl, rfl, rfl, trivial⟩
    · refine oj_alloc Try.zeroValue26 rfl rfl (fun b5 => ?_)
      refine oj_nil ?_
      refine ej_pl (lt_y (y_load1 Try.isAgg23 rfl rfl) rfl (lt_y (y_fa fa26_1 rfl) rfl (lt_y (y_load1 Try.isAgg9 rfl rfl) rfl (lt_y (y_fa0 fa26_0 rfl) rfl (lt_nil))))) ?_
      refine pl_w1 4 (by kernel_rfl) rfl rfl (pl_fire rfl rfl rfl (by kernel_rfl) ?_)
      refine oj_callS (fun A c => .slice A x.says.length c) 1 enStr x.says Try.call81 rfl (fun w hp => (k_OwnTexts x.says x.As x.cs w hp.rd (by omega)).mono fun e w' ⟨B, d, he, hg, hO, hn⟩ => ⟨B, d, he, hg, by unfold maxLen; omega, fun hne => by
        obtain ⟨a, ha, hc⟩ := ow_cells hO (fun _ => rfl) hne
        refine ⟨a, ha, ⟨hn a.block (by rw [ha]; rfl), ?_⟩, hc⟩
        exact ow_lt hO hne a.block (by rw [ha]; rfl)⟩) rfl (fun A14 c14 fp14 hfp14 => ?_)
      refine oj_nil ?_
      refine ej_pl (lt_w (by kernel_rfl) (lt_y (y_fa fa26_1 rfl) rfl (lt_y (y_load1 Try.isAgg9 rfl rfl) rfl (lt_y (y_fa0 fa26_0 rfl) rfl (lt_nil))))) ?_
      refine pl_y 5 rfl (y_build (cs := [.string x.cls, .slice A14 x.says.length c14, .slice none 0 0]) st26 rfl (by kernel_rfl)) rfl rfl rfl rfl (by kernel_rfl) ?_
      refine pl_w1 7 (by kernel_rfl) rfl rfl (pl_fire rfl rfl rfl (by kernel_rfl) ?_)
      refine oj_store rfl rfl rfl rfl Try.sizeOf26 rfl ?_
      refine oj_nil ?_
      refine ej_pl (lt_w (by kernel_rfl) (lt_w (by kernel_rfl) (lt_w (by kernel_rfl) (lt_w (by kernel_rfl) (lt_w (by kernel_rfl) (lt_nil)))))) ?_
      refine pl_end (by kernel_rfl) ?_
      exact ej_ct ⟨b5, A14, c14, fp14⟩ hfp14 ⟨rfl, rfl, rfl, rfl, trivial⟩
  · rintro ⟨b5, A14, c14, fp14⟩ hfp14
    dsimp only [List.cons_append, List.nil_append]
    refine cj_seq (cj_seq ?_)
    refine cj_regionG (gj_step (y_assign rfl) rfl rfl rfl (gj_nil ?_))
    refine ej_th (cj_block ?_)
    refine cj_ownNil 26 3 encIt ?_
    refine cj_rd hx.rp (fun _ h => h) ?_
    refine cj_addS (itF (fun _ => False) []) (fun w hp => ⟨fun z hz => (by cases hz), fun i hi => hi.elim⟩) ?_
    refine cj_eqO [ow 26 3 encIt none 0 ([] : List ItemV), ownB b5 (cellsB 26 [.string x.cls, .slice A14 x.says.length c14, .slice none ([] : List ItemV).length 0]), ownB b4 (cellsB 26 [.string ⟨#[]⟩, .slice none 0 0, .slice none 0 0]), ownB b3 (cellsB 26 [.string x.cls, .slice x.As x.says.length x.cs, .slice x.Ap x.parts.length x.cp])] rfl ?_
    refine cj_lpi (X := Nat × Option Addr × Nat × List ItemV × (Nat → Prop)) [(5, _), (0, _), (3, _), (4, _)] (fun ⟨k, A1, c1, ys, fp⟩ => k ≤ x.parts.length ∧ ys.map ItemV.pl = lsort (ltT (gramM l)) [] ((x.parts.take k).map (fun p => sortT (gramM l) p.pl)) ∧ ys.length = k ∧ ∀ i, fp i → w.heap.size ≤ i) (fun ⟨k, A1, c1, ys, fp⟩ => [(6, .int .i64 k)]) (fun ⟨k, A1, c1, ys, fp⟩ => [ow 26 3 encIt A1 c1 ys, ownB b5 (cellsB 26 [.string x.cls, .slice A14 x.says.length c14, .slice A1 ys.length c1]), ownB b4 (cellsB 26 [.string ⟨#[]⟩, .slice none 0 0, .slice none 0 0]), ownB b3 (cellsB 26 [.string x.cls, .slice x.As x.says.length x.cs, .slice x.Ap x.parts.length x.cp])]) (fun ⟨k, A1, c1, ys, fp⟩ => [itF fp ys, sl (fun b => b < w.heap.size) 3 encIt x.Ap x.parts, sl fp14 1 enStr A14 x.says, sl (fun b => b < w.heap.size) 4 encCl A l]) (fun ⟨k, A1, c1, ys, fp⟩ => x.parts.length - k) (0, none, 0, [], fun _ => False) (⟨Nat.zero_le _, rfl, rfl, fun i h => h.elim⟩) ⟨rfl, rfl, rfl, rfl, rfl, trivial⟩ ?_
    rintro ⟨k, A1, c1, ys, fp⟩ ⟨hk, hys, hxl, hfn⟩
    dsimp only [List.cons_append, List.nil_append]
    have hmS : itF fp ys ∈ [itF fp ys, sl (fun b => b < w.heap.size) 3 encIt x.Ap x.parts, sl fp14 1 enStr A14 x.says, sl (fun b => b < w.heap.size) 4 encCl A l] := List.mem_cons_self ..
    refine cj_seq (cj_seq ?_)
    refine cj_regionG (gj_step (y_move rfl) rfl rfl rfl (gj_step (y_fa fa26_2 rfl) rfl rfl rfl (gj_step (y_load1 Try.isAgg24 rfl rfl) rfl rfl rfl (gj_step (y_lenA Try.underlying24 rfl) rfl rfl rfl (gj_step (y_lss rfl rfl) rfl rfl rfl (gj_nil ?_))))))
    refine ej_th ?_
    refine cj_cond rfl (fun h20 => ?_) (fun h20 => ?_)
    · have h20b := h20
      try simp only [sxb] at h20
      obtain ⟨q, hq⟩ : ∃ q, x.parts[k]? = some q := ⟨_, List.getElem?_eq_getElem (by omega)⟩
      have hqm : q.pl ∈ x.pl.parts := by rw [pl_parts]; exact List.mem_map.2 ⟨q, List.mem_of_getElem? hq, rfl⟩
      have hqo := ho.pt _ hqm
      have hqc : cntT q.pl ≤ 24 := by have h1 := cntL_mem _ _ hqm; have h2 := cntT_eq x.pl; omega
      refine cj_skip (ej_th (cj_seq (cj_block (cj_seq (cj_region ?_)))))
      refine oj_step (y_move rfl) rfl rfl rfl ?_
      refine oj_step (y_fa fa26_2 rfl) rfl rfl rfl ?_
      refine oj_step (y_load1 Try.isAgg24 rfl rfl) rfl rfl rfl ?_
      refine oj_step (y_move rfl) rfl rfl rfl ?_
      refine oj_step (y_ixR (reads_sl) Try.underlying24 Try.sizeOf26 rfl rfl (⟨by omega, by omega⟩)) rfl rfl rfl ?_
      refine oj_step (y_ldW (reads_sl) Try.isAgg26 Try.sizeOf26 rfl (hq) (fun _ => rfl)) rfl rfl rfl ?_
      refine oj_call (X := { z : ItemV × Nat × Nat // z.1.pl = sortT (gramM l) q.pl ∧ w.heap.size ≤ z.2.1 }) (fun z => evI z.1.1) (fun _ => []) (fun z => [itF (fun i => z.1.2.1 ≤ i ∧ i < z.1.2.2) [z.1.1]]) Try.call54 rfl (fun w1 hp => (ih q (List.mem_of_getElem? hq) w1 hp.below).mono fun e w2 ⟨y, he, hg, hy, hG⟩ => ⟨⟨(y, w1.heap.size, w2.heap.size), hy, hp.size⟩, he, hg, by simp, by simp, fun f hf => by
        rw [List.mem_singleton.1 hf]
        exact ⟨fun z hz => by rw [List.mem_singleton.1 hz]; exact hG, fun i hi => ⟨hi.1, hi.2, by simp⟩⟩⟩) rfl ?_
      rintro ⟨⟨y, n1, n2⟩, hy, hn1⟩
      dsimp only [List.cons_append, List.nil_append] at hy hn1 ⊢
      refine oj_alloc Try.zeroValue26 rfl rfl (fun b7 => ?_)
      refine oj_store rfl rfl rfl rfl Try.sizeOf26 rfl ?_
      refine oj_nil ?_
      refine ej_th (cj_seq ?_)
      have hyo : OkT (gramM l) y.pl := by rw [hy]; exact sort_ok hqo
      have hyc : cntT y.pl ≤ 24 := by rw [hy, sort_cnt]; exact hqc
      have hso : ∀ z ∈ ys, SortI (gramM l) z := by
        intro z hz
        have hz2 : z.pl ∈ lsort (ltT (gramM l)) [] ((x.parts.take k).map (fun p => sortT (gramM l) p.pl)) := by rw [← hys]; exact List.mem_map.2 ⟨z, hz, rfl⟩
        rw [← (isort_L (ltT_weak (gramM l)) _ [] List.Pairwise.nil).1, isort_mem] at hz2
        rcases hz2 with h | h
        · cases h
        obtain ⟨p, hp, he⟩ := List.mem_map.1 h
        have hpo : p.pl ∈ x.pl.parts := by rw [pl_parts]; exact List.mem_map.2 ⟨p, List.mem_of_mem_take hp, rfl⟩
        refine ⟨by rw [← he]; exact sort_ok (ho.pt _ hpo), ?_⟩
        rw [← he, sort_cnt]
        have h1 := cntL_mem _ _ hpo
        have h2 := cntT_eq x.pl
        omega
      refine cj_regionG (gj_step (y_assign rfl) rfl rfl rfl (gj_nil ?_))
      refine ej_th (cj_seq (cj_block ?_))
      refine cj_lpic (X := Nat) [(6, _), (5, _), (0, _), (3, _), (4, _), (7, _)] (fun j => j ≤ ys.length ∧ insF (ltV (gramM l)) y (ys.drop j) j = insF (ltV (gramM l)) y ys 0) (fun j => [(8, .int .i64 j)]) (fun j => ys.length - j) 0 (⟨Nat.zero_le _, rfl⟩) ⟨rfl, rfl, rfl, rfl, rfl, rfl, rfl, trivial⟩ ?_
      rintro j ⟨hj, hin⟩
      dsimp only [List.cons_append, List.nil_append]
      refine cj_seq (cj_seq ?_)
      refine cj_draw (by kernel_rfl) (by kernel_rfl) ?_
      refine gj_step (y_move rfl) rfl rfl rfl (gj_step (y_fa fa26_2 rfl) rfl rfl rfl (gj_step (y_load1 Try.isAgg24 rfl rfl) rfl rfl rfl (gj_step (y_lenA Try.underlying24 rfl) rfl rfl rfl (gj_step (y_lss rfl rfl) rfl rfl rfl (gj_step (y_move rfl) rfl rfl rfl (?_))))))
      refine gj_g 12 35 47 rfl rfl rfl rfl (fun hg35 => gj_yes rfl rfl rfl (y_move rfl) rfl rfl (gj_yes rfl rfl rfl (y_loadN Try.isAgg26 Try.sizeOf26 rfl) rfl rfl (gj_yes rfl rfl rfl (y_call Try.call99 rfl (fun w hp => by
        have h1 : GoodI w _ := hp_it hp (fun i => n1 ≤ i ∧ i < n2) y
        have h := k_rtext l A c h1 w (Below.refl _ _) hgo hp.rd (fun q hq => (hgc q hq).mono hp.below) hyo hyc
        exact h)) rfl rfl (gj_yes rfl rfl rfl (y_move rfl) rfl rfl (gj_yes rfl rfl rfl (y_fa fa26_2 rfl) rfl rfl (gj_yes rfl rfl rfl (y_load1 Try.isAgg24 rfl rfl) rfl rfl (gj_yes rfl rfl rfl (y_move rfl) rfl rfl (gj_yes rfl rfl rfl (y_ixR (reads_ow encIt_len) Try.underlying24 Try.sizeOf26 rfl rfl (⟨by omega, by have := hg35; simp only [sxb] at this; omega⟩)) rfl rfl (gj_yes rfl rfl rfl (y_ldW (reads_ow encIt_len) Try.isAgg26 Try.sizeOf26 rfl (geq default (by have := hg35; simp only [sxb] at this; omega)) (fun _ => rfl)) rfl rfl (gj_yes rfl rfl rfl (y_call Try.call99 rfl (fun w hp => by
        have h1 : GoodI w _ := hp_its hp fp ys (ys.getD j default) (memD (show j < ys.length by have := hg35; simp only [sxb] at this; omega))
        have h := k_rtext l A c h1 w (Below.refl _ _) hgo hp.rd (fun q hq => (hgc q hq).mono hp.below) (hso _ (memD (show j < ys.length by have := hg35; simp only [sxb] at this; omega))).ok (hso _ (memD (show j < ys.length by have := hg35; simp only [sxb] at this; omega))).cnt
        exact h)) rfl rfl (gj_yes rfl rfl rfl (y_call Try.call98 rfl (fun w hp => k_Less _ _ w (by have := txt_size hyo hyc; omega))) rfl rfl (gj_yes rfl rfl rfl (y_not rfl) rfl rfl (gj_nil rfl))))))))))))) ?_
      refine gj_step (y_and rfl rfl rfl) rfl rfl rfl (?_)
      refine gj_nil ?_
      refine ej_th ?_
      refine cj_cond rfl (fun h48 => ?_) (fun h48 => ?_)
      · have h48b := h48
        try simp only [sxb] at h48
        rw [Bool.and_eq_true, decide_eq_true_eq] at h48b
        have hjl : j < ys.length := by omega
        have hin2 := insF_go (ltV (gramM l)) y ys default j hjl hin (by have h9 := h48b.2; rw [Bool.not_eq_true'] at h9; exact h9)
        refine cj_skip (ej_th (cj_block ?_))
        refine cj_regionG (gj_step (y_move rfl) rfl rfl rfl (gj_step (y_add rfl rfl (by omega)) rfl rfl rfl (gj_step (y_assign rfl) rfl rfl rfl (gj_nil ?_))))
        refine ej_blk ?_
        exact ej_nx (j + 1) (by omega) ⟨by omega, hin2⟩ ⟨rfl, rfl, rfl, rfl, rfl, rfl, rfl, trivial⟩
      · have h48b := h48
        try simp only [sxb] at h48
        have hat : insF (ltV (gramM l)) y ys 0 = j := insF_stop (ltV (gramM l)) y ys default j hj hin h48b
        refine cj_get (fun w hp => hp.owCap (A := A1) (e := 26) (c := c1) (sz := 3) (enc := encIt) (xs := ys)) (fun hcap => ?_)
        refine cj_exit (ej_then_exit (ej_then_exit (ej_blk_hit (ej_th (cj_seq ?_)))))
        skip
        refine cj_regionG (gj_step (y_assign rfl) rfl rfl rfl (gj_nil ?_))
        refine ej_th (cj_seq ?_)
        refine cj_ownNil 26 3 encIt ?_
        refine cj_plan 15 (by kernel_rfl) (by kernel_rfl) ?_
        refine pl_y 0 rfl (y_move rfl) rfl rfl rfl rfl (by kernel_rfl) ?_
        refine pl_y 1 rfl (y_fa fa26_2 rfl) rfl rfl rfl rfl (by kernel_rfl) ?_
        refine pl_y 2 rfl (y_load1 Try.isAgg24 rfl rfl) rfl rfl rfl rfl (by kernel_rfl) ?_
        refine pl_y 3 rfl (y_move rfl) rfl rfl rfl rfl (by kernel_rfl) ?_
        refine pl_y 4 rfl (y_sliceR (xs := ys) 0 j Try.underlying24 Try.sizeOf26 rfl rfl rfl (Nat.zero_le _) (by omega) hcap) rfl rfl rfl rfl (by kernel_rfl) ?_
        refine pl_y 6 rfl (y_loadN Try.isAgg26 Try.sizeOf26 rfl) rfl rfl rfl rfl (by kernel_rfl) ?_
        refine pl_y 9 rfl (y_fa fa26_2 rfl) rfl rfl rfl rfl (by kernel_rfl) ?_
        refine pl_y 10 rfl (y_load1 Try.isAgg24 rfl rfl) rfl rfl rfl rfl (by kernel_rfl) ?_
        refine pl_y 11 rfl (y_move rfl) rfl rfl rfl rfl (by kernel_rfl) ?_
        refine pl_y 12 rfl (y_sliceR (xs := ys) j ys.length Try.underlying24 Try.sizeOf26 rfl rfl rfl (by omega) (Nat.le_refl _) hcap) rfl rfl rfl rfl (by kernel_rfl) ?_
        refine pl_w2 5 7 (by kernel_rfl) rfl rfl (pl_fire rfl rfl rfl (by kernel_rfl) ?_) (pl_fire rfl rfl rfl (by kernel_rfl) ?_)
        · refine oj_append (xs := ([] : List ItemV)) el24 (fun _ => rfl) encIt_one rfl rfl rfl (reads_sub (reads_ow encIt_len) 0 j hcap) (by unfold maxLen; simp only [List.length_nil, List.drop_zero, List.length_take]; omega) (by simp only [List.length_nil, List.drop_zero, List.length_take]; omega) rfl (fun A56 c56 => ?_)
          refine oj_nil ?_
          refine ej_pl (lt_y (y_sliceR (xs := ys) j ys.length Try.underlying24 Try.sizeOf26 rfl rfl rfl (by omega) (Nat.le_refl _) hcap) rfl (lt_y (y_move rfl) rfl (lt_y (y_load1 Try.isAgg24 rfl rfl) rfl (lt_y (y_fa fa26_2 rfl) rfl (lt_y (y_loadN Try.isAgg26 Try.sizeOf26 rfl) rfl (lt_w (by kernel_rfl) (lt_y (y_move rfl) rfl (lt_y (y_load1 Try.isAgg24 rfl rfl) rfl (lt_y (y_fa fa26_2 rfl) rfl (lt_w (by kernel_rfl) (lt_nil))))))))))) ?_
          refine pl_w1 7 (by kernel_rfl) rfl rfl (pl_fire rfl rfl rfl (by kernel_rfl) ?_)
          refine oj_buildSlice (cs := [.string y.cls, .slice y.As y.says.length y.cs, .slice y.Ap y.parts.length y.cp]) [.string ⟨#[]⟩, .slice none 0 0, .slice none 0 0] Try.underlying24 Try.sizeOf26 Try.zeroValue26 rfl rfl (by kernel_rfl) (by kernel_rfl) rfl (fun b58 => ?_)
          refine oj_nil ?_
          refine ej_pl (lt_y (y_sliceR (xs := ys) j ys.length Try.underlying24 Try.sizeOf26 rfl rfl rfl (by omega) (Nat.le_refl _) hcap) rfl (lt_y (y_move rfl) rfl (lt_y (y_load1 Try.isAgg24 rfl rfl) rfl (lt_y (y_fa fa26_2 rfl) rfl (lt_w (by kernel_rfl) (lt_y (y_sliceR (xs := ys) 0 j Try.underlying24 Try.sizeOf26 rfl rfl rfl (Nat.zero_le _) (by omega) hcap) rfl (lt_y (y_move rfl) rfl (lt_y (y_load1 Try.isAgg24 rfl rfl) rfl (lt_y (y_fa fa26_2 rfl) rfl (lt_y (y_move rfl) rfl (lt_nil))))))))))) ?_
          refine pl_w1 8 (by kernel_rfl) rfl rfl (pl_fire rfl rfl rfl (by kernel_rfl) ?_)
          refine oj_append  el24 (fun _ => rfl) encIt_one rfl rfl rfl (reads_lit [y] (fun _ => rfl) rfl) (by unfold maxLen; simp only [List.length_append, List.length_cons, List.length_nil, List.drop_zero, List.length_take]; omega) (by simp only [List.length_append, List.length_cons, List.length_nil, List.drop_zero, List.length_take]; omega) rfl (fun A59 c59 => ?_)
          refine oj_nil ?_
          refine ej_pl (lt_y (y_sliceR (xs := ys) j ys.length Try.underlying24 Try.sizeOf26 rfl rfl rfl (by omega) (Nat.le_refl _) hcap) rfl (lt_y (y_move rfl) rfl (lt_y (y_load1 Try.isAgg24 rfl rfl) rfl (lt_y (y_fa fa26_2 rfl) rfl (lt_y (y_loadN Try.isAgg26 Try.sizeOf26 rfl) rfl (lt_y (y_sliceR (xs := ys) 0 j Try.underlying24 Try.sizeOf26 rfl rfl rfl (Nat.zero_le _) (by omega) hcap) rfl (lt_y (y_move rfl) rfl (lt_y (y_load1 Try.isAgg24 rfl rfl) rfl (lt_y (y_fa fa26_2 rfl) rfl (lt_y (y_move rfl) rfl (lt_nil))))))))))) ?_
          refine pl_w1 13 (by kernel_rfl) rfl rfl (pl_fire rfl rfl rfl (by kernel_rfl) ?_)
          refine oj_append  el24 (fun _ => rfl) encIt_one rfl rfl rfl (reads_sub (reads_ow encIt_len) j ys.length hcap) (by unfold maxLen; simp only [List.length_append, List.length_cons, List.length_nil, List.drop_zero, List.length_take, List.length_drop]; omega) (by simp only [List.length_append, List.length_cons, List.length_nil, List.drop_zero, List.length_take, List.length_drop]; omega) rfl (fun A64 c64 => ?_)
          refine oj_nil ?_
          refine ej_pl (lt_w (by kernel_rfl) (lt_y (y_move rfl) rfl (lt_y (y_load1 Try.isAgg24 rfl rfl) rfl (lt_y (y_fa fa26_2 rfl) rfl (lt_y (y_loadN Try.isAgg26 Try.sizeOf26 rfl) rfl (lt_y (y_sliceR (xs := ys) 0 j Try.underlying24 Try.sizeOf26 rfl rfl rfl (Nat.zero_le _) (by omega) hcap) rfl (lt_y (y_move rfl) rfl (lt_y (y_load1 Try.isAgg24 rfl rfl) rfl (lt_y (y_fa fa26_2 rfl) rfl (lt_y (y_move rfl) rfl (lt_nil))))))))))) ?_
          refine pl_y 14 rfl (y_assign rfl) rfl rfl rfl rfl (by kernel_rfl) ?_
          refine pl_end (by kernel_rfl) ?_
          refine ej_th ?_
          have hil : (([] ++ (ys.take j).drop 0) ++ [y]) ++ (ys.take ys.length).drop j = insL (ltV (gramM l)) ys y := by unfold insL; rw [hat]; simp
          rw [hil]
          refine cj_region ?_
          refine oj_step (y_move rfl) rfl rfl rfl ?_
          refine oj_step (y_fa fa26_2 rfl) rfl rfl rfl ?_
          refine oj_store rfl rfl rfl rfl Try.sizeOf24 rfl ?_
          refine oj_nil ?_
          refine ej_blk (ej_th ?_)
          refine cj_regionG (gj_step (y_move rfl) rfl rfl rfl (gj_step (y_add rfl rfl (by omega)) rfl rfl rfl (gj_step (y_assign rfl) rfl rfl rfl (gj_nil ?_))))
          refine ej_addS (itF (fun i => fp i ∨ (n1 ≤ i ∧ i < n2)) (insL (ltV (gramM l)) ys y)) (fun w1 hp => ?_) ?_
          · have h1 := hp.shared (itF fp ys) (by simp)
            have h2 := hp.shared (itF (fun i => n1 ≤ i ∧ i < n2) [y]) (by simp)
            refine ⟨fun z hz => ?_, fun i hi => ?_⟩
            · unfold insL at hz
              rw [List.mem_append, List.mem_cons] at hz
              rcases hz with hz | rfl | hz
              · exact (h1.1 z (List.mem_of_mem_take hz)).fp (fun _ h => .inl h)
              · exact (h2.1 z (List.mem_cons_self ..)).fp (fun _ h => .inr h)
              · exact (h1.1 z (List.mem_of_mem_drop hz)).fp (fun _ h => .inl h)
            · rcases hi with hi | hi
              · exact ⟨h1.2.1 i hi, fun g hg => h1.2.2 g hg i hi⟩
              · exact ⟨h2.2.1 i hi, fun g hg => h2.2.2 g hg i hi⟩
          have hnl : (insL (ltV (gramM l)) ys y).length = k + 1 := by rw [← hil]; simp only [List.length_append, List.length_cons, List.length_nil, List.drop_zero, List.length_take, List.length_drop]; omega
          exact ej_nx (k + 1, A64, c64, insL (ltV (gramM l)) ys y, fun i => fp i ∨ (n1 ≤ i ∧ i < n2)) (by simp only; omega) ⟨by first | omega | (simp only; omega), by rw [lsort_map_snoc (gramM l) ys y _ hys, List.take_add_one, hq, hy]; simp, hnl, fun i hi => by rcases hi with hi | hi; exact hfn i hi; omega⟩ ⟨rfl, rfl, rfl, rfl, rfl, trivial⟩
        · refine oj_buildSlice (cs := [.string y.cls, .slice y.As y.says.length y.cs, .slice y.Ap y.parts.length y.cp]) [.string ⟨#[]⟩, .slice none 0 0, .slice none 0 0] Try.underlying24 Try.sizeOf26 Try.zeroValue26 rfl rfl (by kernel_rfl) (by kernel_rfl) rfl (fun b58 => ?_)
          refine oj_nil ?_
          refine ej_pl (lt_y (y_sliceR (xs := ys) j ys.length Try.underlying24 Try.sizeOf26 rfl rfl rfl (by omega) (Nat.le_refl _) hcap) rfl (lt_y (y_move rfl) rfl (lt_y (y_load1 Try.isAgg24 rfl rfl) rfl (lt_y (y_fa fa26_2 rfl) rfl (lt_w (by kernel_rfl) (lt_y (y_sliceR (xs := ys) 0 j Try.underlying24 Try.sizeOf26 rfl rfl rfl (Nat.zero_le _) (by omega) hcap) rfl (lt_y (y_move rfl) rfl (lt_y (y_load1 Try.isAgg24 rfl rfl) rfl (lt_y (y_fa fa26_2 rfl) rfl (lt_y (y_move rfl) rfl (lt_nil))))))))))) ?_
          refine pl_w1 5 (by kernel_rfl) rfl rfl (pl_fire rfl rfl rfl (by kernel_rfl) ?_)
          refine oj_append (xs := ([] : List ItemV)) el24 (fun _ => rfl) encIt_one rfl rfl rfl (reads_sub (reads_ow encIt_len) 0 j hcap) (by unfold maxLen; simp only [List.length_nil, List.drop_zero, List.length_take]; omega) (by simp only [List.length_nil, List.drop_zero, List.length_take]; omega) rfl (fun A56 c56 => ?_)
          refine oj_nil ?_
          refine ej_pl (lt_y (y_sliceR (xs := ys) j ys.length Try.underlying24 Try.sizeOf26 rfl rfl rfl (by omega) (Nat.le_refl _) hcap) rfl (lt_y (y_move rfl) rfl (lt_y (y_load1 Try.isAgg24 rfl rfl) rfl (lt_y (y_fa fa26_2 rfl) rfl (lt_y (y_loadN Try.isAgg26 Try.sizeOf26 rfl) rfl (lt_w (by kernel_rfl) (lt_y (y_move rfl) rfl (lt_y (y_load1 Try.isAgg24 rfl rfl) rfl (lt_y (y_fa fa26_2 rfl) rfl (lt_w (by kernel_rfl) (lt_nil))))))))))) ?_
          refine pl_w1 8 (by kernel_rfl) rfl rfl (pl_fire rfl rfl rfl (by kernel_rfl) ?_)
          refine oj_append  el24 (fun _ => rfl) encIt_one rfl rfl rfl (reads_lit [y] (fun _ => rfl) rfl) (by unfold maxLen; simp only [List.length_append, List.length_cons, List.length_nil, List.drop_zero, List.length_take]; omega) (by simp only [List.length_append, List.length_cons, List.length_nil, List.drop_zero, List.length_take]; omega) rfl (fun A59 c59 => ?_)
          refine oj_nil ?_
          refine ej_pl (lt_y (y_sliceR (xs := ys) j ys.length Try.underlying24 Try.sizeOf26 rfl rfl rfl (by omega) (Nat.le_refl _) hcap) rfl (lt_y (y_move rfl) rfl (lt_y (y_load1 Try.isAgg24 rfl rfl) rfl (lt_y (y_fa fa26_2 rfl) rfl (lt_y (y_loadN Try.isAgg26 Try.sizeOf26 rfl) rfl (lt_y (y_sliceR (xs := ys) 0 j Try.underlying24 Try.sizeOf26 rfl rfl rfl (Nat.zero_le _) (by omega) hcap) rfl (lt_y (y_move rfl) rfl (lt_y (y_load1 Try.isAgg24 rfl rfl) rfl (lt_y (y_fa fa26_2 rfl) rfl (lt_y (y_move rfl) rfl (lt_nil))))))))))) ?_
          refine pl_w1 13 (by kernel_rfl) rfl rfl (pl_fire rfl rfl rfl (by kernel_rfl) ?_)
          refine oj_append  el24 (fun _ => rfl) encIt_one rfl rfl rfl (reads_sub (reads_ow encIt_len) j ys.length hcap) (by unfold maxLen; simp only [List.length_append, List.length_cons, List.length_nil, List.drop_zero, List.length_take, List.length_drop]; omega) (by simp only [List.length_append, List.length_cons, List.length_nil, List.drop_zero, List.length_take, List.length_drop]; omega) rfl (fun A64 c64 => ?_)
          refine oj_nil ?_
          refine ej_pl (lt_w (by kernel_rfl) (lt_y (y_move rfl) rfl (lt_y (y_load1 Try.isAgg24 rfl rfl) rfl (lt_y (y_fa fa26_2 rfl) rfl (lt_y (y_loadN Try.isAgg26 Try.sizeOf26 rfl) rfl (lt_y (y_sliceR (xs := ys) 0 j Try.underlying24 Try.sizeOf26 rfl rfl rfl (Nat.zero_le _) (by omega) hcap) rfl (lt_y (y_move rfl) rfl (lt_y (y_load1 Try.isAgg24 rfl rfl) rfl (lt_y (y_fa fa26_2 rfl) rfl (lt_y (y_move rfl) rfl (lt_nil))))))))))) ?_
          refine pl_y 14 rfl (y_assign rfl) rfl rfl rfl rfl (by kernel_rfl) ?_
          refine pl_end (by kernel_rfl) ?_
          refine ej_th ?_
          have hil : (([] ++ (ys.take j).drop 0) ++ [y]) ++ (ys.take ys.length).drop j = insL (ltV (gramM l)) ys y := by unfold insL; rw [hat]; simp
          rw [hil]
          refine cj_region ?_
          refine oj_step (y_move rfl) rfl rfl rfl ?_
          refine oj_step (y_fa fa26_2 rfl) rfl rfl rfl ?_
          refine oj_store rfl rfl rfl rfl Try.sizeOf24 rfl ?_
          refine oj_nil ?_
          refine ej_blk (ej_th ?_)
          refine cj_regionG (gj_step (y_move rfl) rfl rfl rfl (gj_step (y_add rfl rfl (by omega)) rfl rfl rfl (gj_step (y_assign rfl) rfl rfl rfl (gj_nil ?_))))
          refine ej_addS (itF (fun i => fp i ∨ (n1 ≤ i ∧ i < n2)) (insL (ltV (gramM l)) ys y)) (fun w1 hp => ?_) ?_
          · have h1 := hp.shared (itF fp ys) (by simp)
            have h2 := hp.shared (itF (fun i => n1 ≤ i ∧ i < n2) [y]) (by simp)
            refine ⟨fun z hz => ?_, fun i hi => ?_⟩
            · unfold insL at hz
              rw [List.mem_append, List.mem_cons] at hz
              rcases hz with hz | rfl | hz
              · exact (h1.1 z (List.mem_of_mem_take hz)).fp (fun _ h => .inl h)
              · exact (h2.1 z (List.mem_cons_self ..)).fp (fun _ h => .inr h)
              · exact (h1.1 z (List.mem_of_mem_drop hz)).fp (fun _ h => .inl h)
            · rcases hi with hi | hi
              · exact ⟨h1.2.1 i hi, fun g hg => h1.2.2 g hg i hi⟩
              · exact ⟨h2.2.1 i hi, fun g hg => h2.2.2 g hg i hi⟩
          have hnl : (insL (ltV (gramM l)) ys y).length = k + 1 := by rw [← hil]; simp only [List.length_append, List.length_cons, List.length_nil, List.drop_zero, List.length_take, List.length_drop]; omega
          exact ej_nx (k + 1, A64, c64, insL (ltV (gramM l)) ys y, fun i => fp i ∨ (n1 ≤ i ∧ i < n2)) (by simp only; omega) ⟨by first | omega | (simp only; omega), by rw [lsort_map_snoc (gramM l) ys y _ hys, List.take_add_one, hq, hy]; simp, hnl, fun i hi => by rcases hi with hi | hi; exact hfn i hi; omega⟩ ⟨rfl, rfl, rfl, rfl, rfl, trivial⟩
    · have h20b := h20
      try simp only [sxb] at h20
      refine cj_exit (ej_then_exit (ej_then_exit (ej_blk_hit (ej_th (cj_seq (cj_region ?_))))))
      refine oj_step (y_loadN Try.isAgg26 Try.sizeOf26 rfl) rfl rfl rfl ?_
      refine oj_store rfl rfl rfl rfl Try.sizeOf26 rfl ?_
      refine oj_nil ?_
      refine ej_th (cj_ret ?_)
      have hke : x.parts.take k = x.parts := List.take_of_length_le (by omega)
      rw [hke] at hys
      refine ej_retC1 rfl Try.results54 rfl (y_loadN Try.isAgg26 Try.sizeOf26 rfl) (fun w' hp => ⟨.mk x.cls A14 c14 x.says A1 c1 ys, rfl, hp.below, ?_, ?_⟩)
      · rw [pl_eq, sortT_L, pl_cls, pl_says, pl_parts]
        show IT.mk x.cls x.says (ys.map ItemV.pl) = _
        rw [hys, List.map_map]; rfl
      · have h1 := hp.shared (itF fp ys) (by simp)
        refine .mk (sl_fp (hp.shared (sl fp14 1 enStr A14 x.says) (by simp)).1 (fun i hi => ⟨hfp14 i hi, (hp.shared (sl fp14 1 enStr A14 x.says) (by simp)).2.1 i hi⟩)) (hp.res (A := A1) (fun _ => rfl) (by unfold maxLen; omega)) hx.nm hx.sm (fun p hp2 => ?_)
        exact (h1.1 p hp2).fp (fun i hi => ⟨hfn i hi, h1.2.1 i hi⟩)

theorem k_rsorted (l : List ClassV) (A : Option Addr) (c : Nat) {w0 : World} {x : ItemV} (hx : GoodI w0 x) : ∀ (w : World), Grow w0 w → gramOk l = true → Rd w 4 encCl A l → (∀ c ∈ l, GoodC w c) → OkT (gramM l) x.pl → cntT x.pl ≤ 24 → Calls Try.prog 54 #[.slice A l.length c, evI x] w (fun e w' => ∃ y : ItemV, e = .returned (evI y) ∧ Grow w w' ∧ y.pl = sortT (gramM l) x.pl ∧ GoodF (fun i => w.heap.size ≤ i ∧ i < w'.heap.size) w' y) := by
  induction hx with
  | @mk x hs hp hn hm hr ih =>
    intro w hg hgo hl hgc ho hc
    refine k_rsort1 l A c x w hl hgc hgo ((GoodI.mk hs hp hn hm hr).mono hg) ho hc (fun p hpm w1 hg1 => ?_)
    have hpo : p.pl ∈ x.pl.parts := by rw [pl_parts]; exact List.mem_map.2 ⟨p, hpm, rfl⟩
    have hcp : cntT p.pl ≤ 24 := by have h1 := cntL_mem _ _ hpo; have h2 := cntT_eq x.pl; omega
    exact ih p hpm w1 (grow_trans hg hg1) hgo (hl.mono hg1) (fun q hq => (hgc q hq).mono hg1) (ho.pt _ hpo) hcp

end Go.Proofs.Ytlfbghkcfmcnlaa
namespace Go.Proofs.Ytlfbghkcfmcnlaa
open Go.Sx Go.RowKit
set_option maxRecDepth 20000

end Go.Proofs.Ytlfbghkcfmcnlaa
namespace Go.Proofs.Ytlfbghkcfmcnlaa
open Go.Sx Go.RowKit
set_option maxRecDepth 20000
theorem k_rSort (l : List ClassV) (A : Option Addr) (c : Nat) (x : ItemV) (w : World) (hl : Rd w 4 encCl A l) (hgc : ∀ c ∈ l, GoodC w c) (hx : GoodI w x) : Calls Try.prog 16 #[.slice A l.length c, evI x] w (fun e w' => ∃ y : ItemV, e = .returned (.tuple #[evI y, .int .i64 (askIE l [x])]) ∧ Grow w w' ∧ y.pl = SrtT l x ∧ GoodF (fun i => w.heap.size ≤ i ∧ i < w'.heap.size) w' y) := by
  refine enter_pure (args := [.slice A l.length c, evI x]) [sl (fun b => b < w.heap.size) 4 encCl A l] Try.func16 rfl (by rw [Try.ntmps16]; simp) (fun g hg => by simp at hg; subst hg; exact ⟨hl, fun _ h => h⟩) ?_
  refine cj_seq (cj_region ?_)
  refine oj_box rfl rfl rfl (fun b3 => ?_)
  refine oj_alloc Try.zeroValue26 rfl rfl (fun b4 => ?_)
  refine oj_step (y_assign rfl) rfl rfl rfl ?_
  refine oj_nil ?_
  refine ej_th (cj_seq (cj_seq ?_))
  refine cj_regionG ?_
  refine gj_step (y_move rfl) rfl rfl rfl (gj_step (y_loadN Try.isAgg26 Try.sizeOf26 rfl) rfl rfl rfl (?_))
  refine gj_step (y_call Try.call44 rfl (fun w hp => k_rCheck l A c x w hp.rd (fun q hq => (hgc q hq).mono hp.below) (hx.mono hp.below))) rfl rfl rfl ?_
  refine gj_step (y_assign rfl) rfl rfl rfl (?_)
  refine gj_nil ?_
  refine ej_th (cj_seq ?_)
  refine cj_regionG (gj_step (y_move rfl) rfl rfl rfl (gj_step (y_neq rfl rfl) rfl rfl rfl (gj_nil ?_)))
  refine ej_th ?_
  refine cj_cond rfl (fun h11 => ?_) (fun h11 => ?_)
  · have h11b := h11
    try simp only [sxb] at h11
    have hno := askIE_no h11b
    refine cj_seq (cj_region ?_)
    refine oj_step (y_build st26 rfl rfl) rfl rfl rfl ?_
    refine oj_step (y_move rfl) rfl rfl rfl ?_
    refine oj_store rfl rfl rfl rfl Try.sizeOf26 rfl ?_
    refine oj_step (y_assign rfl) rfl rfl rfl ?_
    refine oj_nil ?_
    refine ej_th (cj_ret (ej_then_ret ?_))
    exact ej_retC2 rfl Try.results16 rfl (y_loadN Try.isAgg26 Try.sizeOf26 rfl) rfl (fun w' hp => ⟨.mk ⟨#[]⟩ none 0 [] none 0 [], rfl, hp.below, by rw [SrtT, hno]; rfl, .mk Res.nil Res.nil (by decide) (fun s hs => by cases hs) (fun p hp => by cases hp)⟩)
  · have h11b := h11
    try simp only [sxb] at h11
    have hok := askIE_ok h11b
    obtain ⟨hoT, hcn⟩ := ask_T hok x (by simp)
    have hgO := ask_gram hok
    have hz : askIE l [x] = 0 := by simpa using h11b
    refine cj_skip (ej_th (cj_seq (cj_region ?_)))
    refine oj_step (y_move rfl) rfl rfl rfl ?_
    refine oj_step (y_loadN Try.isAgg26 Try.sizeOf26 rfl) rfl rfl rfl ?_
    refine oj_call (X := { z : ItemV × Nat × Nat // z.1.pl = sortT (gramM l) x.pl ∧ w.heap.size ≤ z.2.1 }) (fun z => evI z.1.1) (fun _ => []) (fun z => [itF (fun i => z.1.2.1 ≤ i ∧ i < z.1.2.2) [z.1.1]]) Try.call54 rfl (fun w1 hp => (k_rsorted l A c hx w1 hp.below hgO hp.rd (fun q hq => (hgc q hq).mono hp.below) hoT hcn).mono fun e w2 ⟨y, he, hg, hy, hG⟩ => ⟨⟨(y, w1.heap.size, w2.heap.size), hy, hp.size⟩, he, hg, by simp, by simp, fun f hf => by
      rw [List.mem_singleton.1 hf]
      exact ⟨fun z hz => by rw [List.mem_singleton.1 hz]; exact hG, fun i hi => ⟨hi.1, hi.2, by simp⟩⟩⟩) rfl ?_
    rintro ⟨⟨y, n1, n2⟩, hy, hn1⟩
    dsimp only [List.cons_append, List.nil_append] at hy hn1 ⊢
    refine oj_store rfl rfl rfl rfl Try.sizeOf26 rfl ?_
    refine oj_step (y_assign rfl) rfl rfl rfl ?_
    refine oj_nil ?_
    refine ej_th (cj_ret ?_)
    exact ej_retC2 rfl Try.results16 rfl (y_loadN Try.isAgg26 Try.sizeOf26 rfl) rfl (fun w' hp => ⟨y, by rw [hz], hp.below, by rw [SrtT, hok, hy]; rfl, ((hp.shared _ (.head _)).1 y (List.mem_cons_self ..)).fp (fun i hi => ⟨Nat.le_trans hn1 hi.1, (hp.shared _ (.head _)).2.1 i hi⟩)⟩)

theorem k_SameTx1 (l : List ByteArray) (A B : Option Addr) (c d : Nat) (w : World) (hl : Rd w 1 enStr A l) (hm : Rd w 1 enStr B l) : Calls Try.prog 100 #[.slice A l.length c, .slice B l.length d] w (fun e w' => e = .returned (.bool true) ∧ Grow w w') := by
  have hlen := hl.len
  refine enter_pure (args := [.slice A l.length c, .slice B l.length d]) [sl (fun b => b < w.heap.size) 1 enStr A l, sl (fun b => b < w.heap.size) 1 enStr B l] Try.func100 rfl (by rw [Try.ntmps100]; simp) (fun g hg => by simp at hg; rcases hg with rfl | rfl; exact ⟨hl, fun _ h => h⟩; exact ⟨hm, fun _ h => h⟩) ?_
  refine cj_seq ?_
  refine cj_regionG (gj_step (y_assign rfl) rfl rfl rfl (gj_nil ?_))
  refine ej_th (cj_seq ?_)
  refine cj_regionG (gj_step (y_move rfl) rfl rfl rfl (gj_step (y_lenA Try.underlying23 rfl) rfl rfl rfl (gj_step (y_move rfl) rfl rfl rfl (gj_step (y_lenA Try.underlying23 rfl) rfl rfl rfl (gj_step (y_eql rfl rfl) rfl rfl rfl (gj_step (y_assign rfl) rfl rfl rfl (gj_nil ?_)))))))
  refine ej_th (cj_seq (cj_seq ?_))
  refine cj_regionG (gj_step (y_assign rfl) rfl rfl rfl (gj_nil ?_))
  refine ej_th (cj_block ?_)
  refine cj_lpic (X := Nat × Bool) [(0, _), (1, _), (4, _)] (fun ⟨k, ok⟩ => k ≤ l.length ∧ ok = true) (fun ⟨k, ok⟩ => [(5, .bool ok), (6, .int .i64 k)]) (fun ⟨k, ok⟩ => l.length - k) (0, (l.length : Int) == (l.length : Int)) (⟨Nat.zero_le _, by simp⟩) ⟨rfl, rfl, rfl, rfl, rfl, trivial⟩ ?_
  rintro ⟨k, ok⟩ ⟨hk, hok⟩
  dsimp only [List.cons_append, List.nil_append]
  refine cj_seq (cj_seq ?_)
  refine cj_regionG (gj_step (y_move rfl) rfl rfl rfl (gj_step (y_move rfl) rfl rfl rfl (gj_g 4 13 17 rfl rfl rfl rfl (fun hg13 => gj_yes rfl rfl rfl (y_move rfl) rfl rfl (gj_yes rfl rfl rfl (y_move rfl) rfl rfl (gj_yes rfl rfl rfl (y_lenA Try.underlying23 rfl) rfl rfl (gj_yes rfl rfl rfl (y_lss rfl rfl) rfl rfl (gj_nil rfl))))) (gj_step (y_and rfl rfl rfl) rfl rfl rfl (gj_nil ?_)))))
  refine ej_th ?_
  refine cj_cond rfl (fun h18 => ?_) (fun h18 => ?_)
  · have h18b := h18
    try simp only [sxb] at h18
    rw [Bool.and_eq_true, decide_eq_true_eq] at h18b
    obtain ⟨x, hx⟩ : ∃ x, l[k]? = some x := ⟨_, List.getElem?_eq_getElem (by omega)⟩
    refine cj_skip (ej_th (cj_seq (cj_block ?_)))
    refine cj_draw (by kernel_rfl) (by kernel_rfl) (gj_step (y_move rfl) rfl rfl rfl (gj_step (y_move rfl) rfl rfl rfl (gj_step (y_ixR (reads_sl) Try.underlying23 Try.sizeOf9 rfl rfl (⟨by omega, by omega⟩)) rfl rfl rfl (gj_step (y_ld0 (reads_sl) Try.isAgg9 rfl (hx) rfl) rfl rfl rfl (gj_step (y_move rfl) rfl rfl rfl (gj_step (y_move rfl) rfl rfl rfl (gj_step (y_ixR (reads_sl) Try.underlying23 Try.sizeOf9 rfl rfl (⟨by omega, by omega⟩)) rfl rfl rfl (gj_step (y_ld0 (reads_sl) Try.isAgg9 rfl (hx) rfl) rfl rfl rfl (gj_step (y_eqlS rfl rfl) rfl rfl rfl (gj_step (y_assign rfl) rfl rfl rfl (gj_nil ?_)))))))))))
    refine ej_blk (ej_th ?_)
    refine cj_regionG (gj_step (y_move rfl) rfl rfl rfl (gj_step (y_add rfl rfl (by omega)) rfl rfl rfl (gj_step (y_assign rfl) rfl rfl rfl (gj_nil ?_))))
    exact ej_nx (k + 1, x == x) (by simp only; omega) ⟨by first | omega | (simp only; omega), by rw [bytes_beq]; exact decide_eq_true rfl⟩ ⟨rfl, rfl, rfl, rfl, rfl, trivial⟩
  · have h18b := h18
    try simp only [sxb] at h18
    refine cj_exit (ej_then_exit (ej_then_exit (ej_blk_hit (ej_th (cj_seq ?_)))))
    refine cj_regionG (gj_step (y_move rfl) rfl rfl rfl (gj_step (y_assign rfl) rfl rfl rfl (gj_nil ?_)))
    refine ej_th (cj_ret ?_)
    refine ej_ret1 rfl Try.results100 rfl (fun w' hp => ⟨?_, hp.below⟩)
    rw [hok]

theorem k_SameTx (l m : List ByteArray) (A B : Option Addr) (c d : Nat) (w : World) (hl : Rd w 1 enStr A l) (hm : Rd w 1 enStr B m) (he : l = m) : Calls Try.prog 100 #[.slice A l.length c, .slice B m.length d] w (fun e w' => e = .returned (.bool true) ∧ Grow w w') := by
  subst he; exact k_SameTx1 l A B c d w hl hm

theorem k_same1 (x y : ItemV) (deep : Int) (w : World) (hx : GoodI w x) (hy : GoodI w y) (he : x.pl = y.pl) (hd : (depT x.pl : Int) ≤ deep ∧ deep ≤ 100) (ih : ∀ q ∈ x.parts, ∀ r ∈ y.parts, ∀ (w1 : World), Grow w w1 → q.pl = r.pl → ((depT q.pl : Int) ≤ deep - 1 ∧ deep - 1 ≤ 100) → Calls Try.prog 55 #[evI q, evI r, .int .i64 (deep - 1)] w1 (fun e w' => e = .returned (.bool true) ∧ Grow w1 w')) : Calls Try.prog 55 #[evI x, evI y, .int .i64 deep] w (fun e w' => e = .returned (.bool true) ∧ Grow w w') := by
  have hl1 := hx.rs.len
  have hl2 := hx.rp.len
  have hce : x.cls = y.cls := by rw [← pl_cls x, ← pl_cls y, he]
  have hse : x.says = y.says := by rw [← pl_says x, ← pl_says y, he]
  have hpe : x.parts.map ItemV.pl = y.parts.map ItemV.pl := by rw [← pl_parts x, ← pl_parts y, he]
  have hple : x.parts.length = y.parts.length := by have := congrArg List.length hpe; simpa using this
  have hd1 := depT_eq x.pl
  refine enter_pure (args := [evI x, evI y, .int .i64 deep]) [] Try.func55 rfl (by rw [Try.ntmps55]; simp) (by simp) ?_
  refine cj_seq (cj_region ?_)
  refine oj_box rfl rfl rfl (fun b3 => ?_)
  refine oj_box rfl rfl rfl (fun b4 => ?_)
  refine oj_step (y_assign rfl) rfl rfl rfl ?_
  refine oj_nil ?_
  refine ej_th (cj_seq (cj_seq ?_))
  refine cj_rd hx.rs (fun _ h => h) ?_
  refine cj_rd hx.rp (fun _ h => h) ?_
  refine cj_rd hy.rs (fun _ h => h) ?_
  refine cj_rd hy.rp (fun _ h => h) ?_
  refine cj_regionG ?_
  refine gj_step (y_fa0 fa26_0 rfl) rfl rfl rfl (gj_step (y_load1 Try.isAgg9 rfl rfl) rfl rfl rfl (gj_step (y_fa0 fa26_0 rfl) rfl rfl rfl (gj_step (y_load1 Try.isAgg9 rfl rfl) rfl rfl rfl (gj_step (y_neqS rfl rfl) rfl rfl rfl (gj_step (y_move rfl) rfl rfl rfl (?_))))))
  refine gj_g 6 13 19 rfl rfl rfl rfl (fun hg13 => gj_yes rfl rfl rfl (y_fa fa26_1 rfl) rfl rfl (gj_yes rfl rfl rfl (y_load1 Try.isAgg23 rfl rfl) rfl rfl (gj_yes rfl rfl rfl (y_fa fa26_1 rfl) rfl rfl (gj_yes rfl rfl rfl (y_load1 Try.isAgg23 rfl rfl) rfl rfl (gj_yes rfl rfl rfl (y_call Try.call100 rfl (fun w hp => k_SameTx x.says y.says x.As y.As x.cs y.cs w hp.rd hp.rd hse)) rfl rfl (gj_yes rfl rfl rfl (y_not rfl) rfl rfl (gj_nil rfl))))))) ?_
  refine gj_step (y_or rfl rfl rfl) rfl rfl rfl (gj_step (y_move rfl) rfl rfl rfl (?_))
  refine gj_g 7 21 28 rfl rfl rfl rfl (fun hg21 => gj_yes rfl rfl rfl (y_fa fa26_2 rfl) rfl rfl (gj_yes rfl rfl rfl (y_load1 Try.isAgg24 rfl rfl) rfl rfl (gj_yes rfl rfl rfl (y_lenA Try.underlying24 rfl) rfl rfl (gj_yes rfl rfl rfl (y_fa fa26_2 rfl) rfl rfl (gj_yes rfl rfl rfl (y_load1 Try.isAgg24 rfl rfl) rfl rfl (gj_yes rfl rfl rfl (y_lenA Try.underlying24 rfl) rfl rfl (gj_yes rfl rfl rfl (y_neq rfl rfl) rfl rfl (gj_nil rfl)))))))) ?_
  refine gj_step (y_or rfl rfl rfl) rfl rfl rfl (gj_step (y_move rfl) rfl rfl rfl (?_))
  refine gj_g 2 30 32 rfl rfl rfl rfl (fun hg30 => gj_yes rfl rfl rfl (y_move rfl) rfl rfl (gj_yes rfl rfl rfl (y_eql rfl rfl) rfl rfl (gj_nil rfl))) ?_
  refine gj_step (y_or rfl rfl rfl) rfl rfl rfl (?_)
  refine gj_nil ?_
  refine ej_th ?_
  refine cj_cond rfl (fun h33 => ?_) (fun h33 => ?_)
  · exfalso
    rw [hce, hple] at h33
    have h8 : (y.cls == y.cls) = true := by rw [bytes_beq]; exact decide_eq_true rfl
    rw [h8] at h33
    simp at h33
    omega
  · have h33b := h33
    try simp only [sxb] at h33
    refine cj_skip (ej_th (cj_seq (cj_seq ?_)))
    refine cj_regionG (gj_step (y_assign rfl) rfl rfl rfl (gj_nil ?_))
    refine ej_th (cj_block ?_)
    refine cj_lpic (X := Nat) [(2, _), (3, _), (4, _)] (fun k => k ≤ x.parts.length ∧ True) (fun k => [(7, .int .i64 k)]) (fun k => x.parts.length - k) 0 (⟨Nat.zero_le _, trivial⟩) ⟨rfl, rfl, rfl, rfl, trivial⟩ ?_
    rintro k ⟨hk, -⟩
    dsimp only [List.cons_append, List.nil_append]
    refine cj_seq (cj_seq ?_)
    refine cj_regionG (gj_step (y_move rfl) rfl rfl rfl (gj_step (y_fa fa26_2 rfl) rfl rfl rfl (gj_step (y_load1 Try.isAgg24 rfl rfl) rfl rfl rfl (gj_step (y_lenA Try.underlying24 rfl) rfl rfl rfl (gj_step (y_lss rfl rfl) rfl rfl rfl (gj_nil ?_))))))
    refine ej_th ?_
    refine cj_cond rfl (fun h38 => ?_) (fun h38 => ?_)
    · have h38b := h38
      try simp only [sxb] at h38
      obtain ⟨q, hq⟩ : ∃ q, x.parts[k]? = some q := ⟨_, List.getElem?_eq_getElem (by omega)⟩
      obtain ⟨r, hr⟩ : ∃ r, y.parts[k]? = some r := ⟨_, List.getElem?_eq_getElem (by omega)⟩
      have hqr : q.pl = r.pl := by
        have h9 := congrArg (fun l : List IT => l[k]?) hpe
        simp only [List.getElem?_map, hq, hr, Option.map_some, Option.some.injEq] at h9
        exact h9
      have hdq : (depT q.pl : Int) ≤ deep - 1 ∧ deep - 1 ≤ 100 := by
        have h9 := depL_le x.pl.parts q.pl (by rw [pl_parts]; exact List.mem_map.2 ⟨q, List.mem_of_getElem? hq, rfl⟩)
        omega
      refine cj_skip (ej_th (cj_seq (cj_block (cj_seq ?_))))
      refine cj_draw (by kernel_rfl) (by kernel_rfl) ?_
      refine gj_step (y_fa fa26_2 rfl) rfl rfl rfl (gj_step (y_load1 Try.isAgg24 rfl rfl) rfl rfl rfl (gj_step (y_move rfl) rfl rfl rfl (gj_step (y_ixR (reads_sl) Try.underlying24 Try.sizeOf26 rfl rfl (⟨by omega, by omega⟩)) rfl rfl rfl (gj_step (y_ldW (reads_sl) Try.isAgg26 Try.sizeOf26 rfl (hq) (fun _ => rfl)) rfl rfl rfl (gj_step (y_fa fa26_2 rfl) rfl rfl rfl (gj_step (y_load1 Try.isAgg24 rfl rfl) rfl rfl rfl (gj_step (y_move rfl) rfl rfl rfl (gj_step (y_ixR (reads_sl) Try.underlying24 Try.sizeOf26 rfl rfl (⟨by omega, by omega⟩)) rfl rfl rfl (gj_step (y_ldW (reads_sl) Try.isAgg26 Try.sizeOf26 rfl (hr) (fun _ => rfl)) rfl rfl rfl (gj_step (y_move rfl) rfl rfl rfl (gj_step (y_sub rfl rfl (by omega)) rfl rfl rfl (?_))))))))))))
      refine gj_step (y_call Try.call55 rfl (fun w hp => ih q (List.mem_of_getElem? hq) r (List.mem_of_getElem? hr) w hp.below hqr hdq)) rfl rfl rfl ?_
      refine gj_step (y_not rfl) rfl rfl rfl (?_)
      refine gj_nil ?_
      refine ej_th ?_
      refine cj_cond rfl (fun h54 => ?_) (fun h54 => ?_)
      · cases h54
      · have h54b := h54
        try simp only [sxb] at h54
        refine cj_skip (ej_blk (ej_th ?_))
        refine cj_regionG (gj_step (y_move rfl) rfl rfl rfl (gj_step (y_add rfl rfl (by omega)) rfl rfl rfl (gj_step (y_assign rfl) rfl rfl rfl (gj_nil ?_))))
        exact ej_nx (k + 1) (by omega) ⟨by omega, trivial⟩ ⟨rfl, rfl, rfl, rfl, trivial⟩
    · have h38b := h38
      try simp only [sxb] at h38
      refine cj_exit (ej_then_exit (ej_then_exit (ej_blk_hit (ej_th (cj_seq ?_)))))
      refine cj_regionG (gj_step (y_assign rfl) rfl rfl rfl (gj_nil ?_))
      refine ej_th (cj_ret ?_)
      refine ej_ret1 rfl Try.results55 rfl (fun w' hp => ⟨?_, hp.below⟩)
      rfl

theorem k_same {w0 : World} {x : ItemV} (hx : GoodI w0 x) : ∀ (y : ItemV) (deep : Int) (w : World), Grow w0 w → GoodI w y → x.pl = y.pl → ((depT x.pl : Int) ≤ deep ∧ deep ≤ 100) → Calls Try.prog 55 #[evI x, evI y, .int .i64 deep] w (fun e w' => e = .returned (.bool true) ∧ Grow w w') := by
  induction hx with
  | mk hs hp hn hm hr ih =>
    intro y deep w hg hy he hd
    exact k_same1 _ y deep w ((GoodI.mk hs hp hn hm hr).mono hg) hy he hd (fun q hq r hr2 w1 hg1 hqr hd2 => ih q hq r (deep - 1) w1 (grow_trans hg hg1) ((hy.pt r hr2).mono hg1) hqr hd2)

theorem k_SameItems (x y : ItemV) (w : World) (hx : GoodI w x) (hy : GoodI w y) (he : x.pl = y.pl) (hd : depT x.pl ≤ 4) : Calls Try.prog 17 #[evI x, evI y] w (fun e w' => e = .returned (.bool true) ∧ Grow w w') := by
  refine enter_pure (args := [evI x, evI y]) [] Try.func17 rfl (by rw [Try.ntmps17]; simp) (by simp) ?_
  refine cj_seq (cj_region ?_)
  refine oj_box rfl rfl rfl (fun b2 => ?_)
  refine oj_box rfl rfl rfl (fun b3 => ?_)
  refine oj_step (y_assign rfl) rfl rfl rfl ?_
  refine oj_nil ?_
  refine ej_th (cj_seq ?_)
  refine cj_regionG ?_
  refine gj_step (y_loadN Try.isAgg26 Try.sizeOf26 rfl) rfl rfl rfl (gj_step (y_loadN Try.isAgg26 Try.sizeOf26 rfl) rfl rfl rfl (?_))
  refine gj_step (y_call Try.call55 rfl (fun w hp => k_same hx y 4 w hp.below (hy.mono hp.below) he (by omega))) rfl rfl rfl ?_
  refine gj_step (y_assign rfl) rfl rfl rfl (?_)
  refine gj_nil ?_
  refine ej_th (cj_ret ?_)
  refine ej_ret1 rfl Try.results17 rfl (fun w' hp => ⟨?_, hp.below⟩)
  rfl

set_option maxHeartbeats 1000000 in
theorem k_PledgeCovers (l : List ClassV) (A : Option Addr) (c : Nat) (a b : ItemV) (w : World) (hl : Rd w 4 encCl A l) (hgc : ∀ c ∈ l, GoodC w c) (hga : GoodI w a) (hgb : GoodI w b) : Calls Try.prog 3 #[.slice A l.length c, evI a, evI b] w (fun e w' => e = .returned (.bool true) ∧ Grow w w') := by
  refine enter_pure (args := [.slice A l.length c, evI a, evI b]) [sl (fun b => b < w.heap.size) 4 encCl A l] Try.func3 rfl (by rw [Try.ntmps3]; simp) (fun g hg => by simp at hg; subst hg; exact ⟨hl, fun _ h => h⟩) ?_
  refine cj_seq (cj_region ?_)
  refine oj_box rfl rfl rfl (fun b4 => ?_)
  refine oj_box rfl rfl rfl (fun b5 => ?_)
  refine oj_step (y_assign rfl) rfl rfl rfl ?_
  refine oj_nil ?_
  refine ej_th (cj_seq ?_)
  refine cj_regionG ?_
  refine gj_step (y_move rfl) rfl rfl rfl (gj_step (y_loadN Try.isAgg26 Try.sizeOf26 rfl) rfl rfl rfl (gj_step (y_loadN Try.isAgg26 Try.sizeOf26 rfl) rfl rfl rfl (?_)))
  refine gj_step (y_call Try.call13 rfl (fun w hp => k_Covers l A c a b w hp.rd (fun q hq => (hgc q hq).mono hp.below) (hga.mono hp.below) (hgb.mono hp.below))) rfl rfl rfl ?_
  refine gj_step (y_move rfl) rfl rfl rfl (gj_step (y_extract rfl rfl) rfl rfl rfl (gj_step (y_extract rfl rfl) rfl rfl rfl (gj_step (y_assign rfl) rfl rfl rfl (gj_step (y_assign rfl) rfl rfl rfl (?_)))))
  refine gj_nil ?_
  refine ej_th (cj_seq ?_)
  refine cj_regionG ?_
  refine gj_step (y_move rfl) rfl rfl rfl (gj_step (y_loadN Try.isAgg26 Try.sizeOf26 rfl) rfl rfl rfl (gj_step (y_loadN Try.isAgg26 Try.sizeOf26 rfl) rfl rfl rfl (?_)))
  refine gj_step (y_call Try.call14 rfl (fun w hp => k_rCovers l A c a b w hp.rd (fun q hq => (hgc q hq).mono hp.below) (hga.mono hp.below) (hgb.mono hp.below))) rfl rfl rfl ?_
  refine gj_step (y_move rfl) rfl rfl rfl (gj_step (y_extract rfl rfl) rfl rfl rfl (gj_step (y_extract rfl rfl) rfl rfl rfl (gj_step (y_assign rfl) rfl rfl rfl (gj_step (y_assign rfl) rfl rfl rfl (?_)))))
  refine gj_nil ?_
  refine ej_th (cj_seq (cj_seq ?_))
  refine cj_regionG (gj_step (y_move rfl) rfl rfl rfl (gj_step (y_move rfl) rfl rfl rfl (gj_step (y_neqB Try.underlying4 rfl rfl) rfl rfl rfl (gj_step (y_move rfl) rfl rfl rfl (gj_g 3 30 33 rfl rfl rfl rfl (fun hg30 => gj_yes rfl rfl rfl (y_move rfl) rfl rfl (gj_yes rfl rfl rfl (y_move rfl) rfl rfl (gj_yes rfl rfl rfl (y_neq rfl rfl) rfl rfl (gj_nil rfl)))) (gj_step (y_or rfl rfl rfl) rfl rfl rfl (gj_nil ?_)))))))
  refine ej_th ?_
  refine cj_cond rfl (fun h34 => ?_) (fun h34 => ?_)
  · exact absurd h34 (by simp)
  · have h34b := h34
    try simp only [sxb] at h34
    refine cj_skip (ej_th (cj_seq (cj_region ?_)))
    refine oj_step (y_move rfl) rfl rfl rfl ?_
    refine oj_step (y_loadN Try.isAgg26 Try.sizeOf26 rfl) rfl rfl rfl ?_
    refine oj_call (X := { z : ItemV × Nat × Nat // z.1.pl = SrtT l a }) (fun z => .tuple #[evI z.1.1, .int .i64 (askIE l [a])]) (fun _ => []) (fun z => [itF (fun i => z.1.2.1 ≤ i ∧ i < z.1.2.2) [z.1.1]]) Try.call15 rfl (fun w1 hp => (k_Sort l A c a w1 hp.rd (fun q hq => (hgc q hq).mono hp.below) (hga.mono hp.below)).mono fun e w2 ⟨z, he, hg, hz, hG⟩ => ⟨⟨(z, w1.heap.size, w2.heap.size), hz⟩, he, hg, by simp, by simp, fun f hf => by
      rw [List.mem_singleton.1 hf]
      exact ⟨fun z hz => by rw [List.mem_singleton.1 hz]; exact hG, fun i hi => ⟨hi.1, hi.2, by simp⟩⟩⟩) rfl ?_
    rintro ⟨⟨y, n1, n2⟩, hy⟩
    dsimp only [List.cons_append, List.nil_append] at hy ⊢
    refine oj_step (y_move rfl) rfl rfl rfl ?_
    refine oj_step (y_extract rfl rfl) rfl rfl rfl ?_
    refine oj_step (y_extract rfl rfl) rfl rfl rfl ?_
    refine oj_alloc Try.zeroValue26 rfl rfl (fun b11 => ?_)
    refine oj_store rfl rfl rfl rfl Try.sizeOf26 rfl ?_
    refine oj_step (y_assign rfl) rfl rfl rfl ?_
    refine oj_nil ?_
    refine ej_th (cj_seq (cj_region ?_))
    refine oj_step (y_move rfl) rfl rfl rfl ?_
    refine oj_step (y_loadN Try.isAgg26 Try.sizeOf26 rfl) rfl rfl rfl ?_
    refine oj_call (X := { z : ItemV × Nat × Nat // z.1.pl = SrtT l a }) (fun z => .tuple #[evI z.1.1, .int .i64 (askIE l [a])]) (fun _ => []) (fun z => [itF (fun i => z.1.2.1 ≤ i ∧ i < z.1.2.2) [z.1.1]]) Try.call16 rfl (fun w1 hp => (k_rSort l A c a w1 hp.rd (fun q hq => (hgc q hq).mono hp.below) (hga.mono hp.below)).mono fun e w2 ⟨z, he, hg, hz, hG⟩ => ⟨⟨(z, w1.heap.size, w2.heap.size), hz⟩, he, hg, by simp, by simp, fun f hf => by
      rw [List.mem_singleton.1 hf]
      exact ⟨fun z hz => by rw [List.mem_singleton.1 hz]; exact hG, fun i hi => ⟨hi.1, hi.2, by simp⟩⟩⟩) rfl ?_
    rintro ⟨⟨z, m1, m2⟩, hz⟩
    dsimp only [List.cons_append, List.nil_append] at hz ⊢
    refine oj_step (y_move rfl) rfl rfl rfl ?_
    refine oj_step (y_extract rfl rfl) rfl rfl rfl ?_
    refine oj_step (y_extract rfl rfl) rfl rfl rfl ?_
    refine oj_alloc Try.zeroValue26 rfl rfl (fun b12 => ?_)
    refine oj_store rfl rfl rfl rfl Try.sizeOf26 rfl ?_
    refine oj_step (y_assign rfl) rfl rfl rfl ?_
    refine oj_nil ?_
    refine ej_th (cj_seq ?_)
    refine cj_regionG ?_
    refine gj_step (y_loadN Try.isAgg26 Try.sizeOf26 rfl) rfl rfl rfl (gj_step (y_loadN Try.isAgg26 Try.sizeOf26 rfl) rfl rfl rfl (?_))
    refine gj_step (y_call Try.call17 rfl (fun w hp => by
      have h1 : GoodI w y := hp_it hp (fun i => n1 ≤ i ∧ i < n2) y
      have h2 : GoodI w z := hp_it hp (fun i => m1 ≤ i ∧ i < m2) z
      exact k_SameItems y z w h1 h2 (hy.trans hz.symm) (by rw [hy]; exact srt_dep a))) rfl rfl rfl ?_
    refine gj_step (y_move rfl) rfl rfl rfl (?_)
    refine gj_g 3 50 53 rfl rfl rfl rfl (fun hg50 => gj_yes rfl rfl rfl (y_move rfl) rfl rfl (gj_yes rfl rfl rfl (y_move rfl) rfl rfl (gj_yes rfl rfl rfl (y_eql rfl rfl) rfl rfl (gj_nil rfl)))) ?_
    refine gj_step (y_and rfl rfl rfl) rfl rfl rfl (gj_step (y_move rfl) rfl rfl rfl (?_))
    refine gj_g 1 55 56 rfl rfl rfl rfl (fun hg55 => gj_yes rfl rfl rfl (y_call Try.call18 rfl (fun w hp => k_works w)) rfl rfl (gj_nil rfl)) ?_
    refine gj_step (y_and rfl rfl rfl) rfl rfl rfl (gj_step (y_assign rfl) rfl rfl rfl (?_))
    refine gj_nil ?_
    refine ej_th (cj_ret ?_)
    refine ej_ret1 rfl Try.results3 rfl (fun w' hp => ⟨?_, hp.below⟩)
    simp

end Go.Proofs.Ytlfbghkcfmcnlaa
