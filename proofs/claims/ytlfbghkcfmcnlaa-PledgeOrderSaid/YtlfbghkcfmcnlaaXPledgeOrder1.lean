/- Texts of ours, joined: 11 of them. Conditions: none. -/
import Derived.Test.YtlfbghkcfmcnlaaXPledgeOrder0
import Derived.Test.YtlfbghkcfmcnlaaProg
import Derived.Laws.StructEq
namespace Go.Proofs.Ytlfbghkcfmcnlaa
open Go.Sx Go.RowKit
set_option maxRecDepth 20000
theorem k_Less (a b : ByteArray) (w : World) (ha : a.size ≤ 9223372036854775807) : Calls Try.prog 98 #[.string a, .string b] w (fun e w' => e = .returned (.bool (ltS a b)) ∧ Grow w w') := by
  have hla := bs_len a
  have hlb := bs_len b
  refine enter_pure (args := [.string a, .string b]) [] Try.func98 rfl (by rw [Try.ntmps98]; simp) (by simp) ?_
  refine cj_seq ?_
  refine cj_regionG (gj_step (y_assign rfl) rfl rfl rfl (gj_nil ?_))
  refine ej_th (cj_seq (cj_seq ?_))
  refine cj_regionG (gj_step (y_assign rfl) rfl rfl rfl (gj_nil ?_))
  refine ej_th (cj_block ?_)
  refine cj_lpic (X := Nat) [(0, _), (1, _)] (fun k => k ≤ a.size ∧ k ≤ b.size ∧ bsl ((bsOf a).drop k) ((bsOf b).drop k) = ltS a b) (fun k => [(5, .int .i64 k)]) (fun k => a.size - k) 0 (⟨Nat.zero_le _, Nat.zero_le _, bsl_S a b⟩) ⟨rfl, rfl, rfl, trivial⟩ ?_
  rintro k ⟨hk, hk2, hsk⟩
  dsimp only [List.cons_append, List.nil_append]
  refine cj_seq (cj_seq ?_)
  refine cj_regionG (gj_step (y_move rfl) rfl rfl rfl (gj_step (y_move rfl) rfl rfl rfl (gj_step (y_lenS Try.underlying9 rfl) rfl rfl rfl (gj_step (y_lss rfl rfl) rfl rfl rfl (gj_step (y_move rfl) rfl rfl rfl (gj_g 4 10 14 rfl rfl rfl rfl (fun hg10 => gj_yes rfl rfl rfl (y_move rfl) rfl rfl (gj_yes rfl rfl rfl (y_move rfl) rfl rfl (gj_yes rfl rfl rfl (y_lenS Try.underlying9 rfl) rfl rfl (gj_yes rfl rfl rfl (y_lss rfl rfl) rfl rfl (gj_nil rfl))))) (gj_step (y_and rfl rfl rfl) rfl rfl rfl (gj_nil ?_))))))))
  refine ej_th ?_
  refine cj_cond rfl (fun h15 => ?_) (fun h15 => ?_)
  · have h15b := h15
    try simp only [sxb] at h15
    rw [Bool.and_eq_true, decide_eq_true_eq, decide_eq_true_eq] at h15b
    obtain ⟨p, hx⟩ : ∃ p, (bsOf a)[k]? = some p := ⟨_, List.getElem?_eq_getElem (by omega)⟩
    obtain ⟨q, hy⟩ : ∃ q, (bsOf b)[k]? = some q := ⟨_, List.getElem?_eq_getElem (by omega)⟩
    rw [bsl_drop _ _ k p q hx hy] at hsk
    refine cj_skip (ej_th (cj_seq (cj_block (cj_seq ?_))))
    refine cj_draw (by kernel_rfl) (by kernel_rfl) (gj_step (y_move rfl) rfl rfl rfl (gj_step (y_move rfl) rfl rfl rfl (gj_step (y_indexS Try.underlying9 rfl rfl (by omega) (bs_get hx)) rfl rfl rfl (gj_step (y_move rfl) rfl rfl rfl (gj_step (y_move rfl) rfl rfl rfl (gj_step (y_indexS Try.underlying9 rfl rfl (by omega) (bs_get hy)) rfl rfl rfl (gj_step (y_neq rfl rfl) rfl rfl rfl (gj_nil ?_))))))))
    refine ej_th ?_
    refine cj_cond rfl (fun h24 => ?_) (fun h24 => ?_)
    · have h24b := h24
      try simp only [sxb] at h24
      refine cj_seq ?_
      refine cj_draw (by kernel_rfl) (by kernel_rfl) (gj_step (y_move rfl) rfl rfl rfl (gj_step (y_move rfl) rfl rfl rfl (gj_step (y_indexS Try.underlying9 rfl rfl (by omega) (bs_get hx)) rfl rfl rfl (gj_step (y_move rfl) rfl rfl rfl (gj_step (y_move rfl) rfl rfl rfl (gj_step (y_indexS Try.underlying9 rfl rfl (by omega) (bs_get hy)) rfl rfl rfl (gj_step (y_lss rfl rfl) rfl rfl rfl (gj_step (y_assign rfl) rfl rfl rfl (gj_nil ?_)))))))))
      refine ej_th (cj_ret (ej_blk_ret (ej_then_ret (ej_then_ret (ej_blk_ret (ej_then_ret ?_))))))
      refine ej_ret1 rfl Try.results98 rfl (fun w' hp => ⟨?_, hp.below⟩)
      rw [← hsk, if_neg (by rw [u8_ne] at h24b; simpa using h24b), u8_lt]
    · have h24b := h24
      try simp only [sxb] at h24
      refine cj_skip (ej_blk (ej_th ?_))
      refine cj_regionG (gj_step (y_move rfl) rfl rfl rfl (gj_step (y_add rfl rfl (by omega)) rfl rfl rfl (gj_step (y_assign rfl) rfl rfl rfl (gj_nil ?_))))
      exact ej_nx (k + 1) (by omega) ⟨by omega, by omega, by rw [← hsk, if_pos (by rw [u8_ne] at h24b; simpa using h24b)]⟩ ⟨rfl, rfl, rfl, trivial⟩
  · have h15b := h15
    try simp only [sxb] at h15
    rw [Bool.and_eq_false_iff, decide_eq_false_iff_not, decide_eq_false_iff_not] at h15b
    refine cj_exit (ej_then_exit (ej_then_exit (ej_blk_hit (ej_th (cj_seq ?_)))))
    refine cj_regionG (gj_step (y_move rfl) rfl rfl rfl (gj_step (y_lenS Try.underlying9 rfl) rfl rfl rfl (gj_step (y_move rfl) rfl rfl rfl (gj_step (y_lenS Try.underlying9 rfl) rfl rfl rfl (gj_step (y_lss rfl rfl) rfl rfl rfl (gj_step (y_assign rfl) rfl rfl rfl (gj_nil ?_)))))))
    refine ej_th (cj_ret ?_)
    refine ej_ret1 rfl Try.results98 rfl (fun w' hp => ⟨?_, hp.below⟩)
    rw [← hsk, bsl_end _ _ k (by omega) (by omega) (by omega), hla, hlb]

theorem k_OwnTexts (l : List ByteArray) (A : Option Addr) (c : Nat) (w : World) (hl : Rd w 1 enStr A l) (h8 : l.length ≤ 1000000) : Calls Try.prog 81 #[.slice A l.length c] w (fun e w' => ∃ B d, e = .returned (.slice B l.length d) ∧ Grow w w' ∧ (ow 9 1 enStr B d l).P w' ∧ ∀ b, (ow 9 1 enStr B d l).fp b → w.heap.size ≤ b) := by
  refine enter_pure (args := [.slice A l.length c]) [sl (fun b => b < w.heap.size) 1 enStr A l] Try.func81 rfl (by rw [Try.ntmps81]; simp) (fun g hg => by simp at hg; subst hg; exact ⟨hl, fun _ h => h⟩) ?_
  refine cj_seq ?_
  refine cj_regionG (gj_step (y_assign rfl) rfl rfl rfl (gj_nil ?_))
  refine ej_th (cj_seq (cj_region ?_))
  refine oj_buildSlice (cs := []) [] Try.underlying23 Try.sizeOf9 Try.zeroValue9 rfl rfl (by kernel_rfl) (by kernel_rfl) rfl (fun b3 => ?_)
  refine oj_litOw (b := b3) (e := 9) (c := 0) (sz := 1) (enc := enStr) [] rfl rfl rfl (by unfold maxLen; simp) ?_
  refine oj_step (y_move rfl) rfl rfl rfl ?_
  refine oj_append (xs := ([] : List ByteArray)) (c := 0) el23 (fun _ => rfl) enStr_one rfl rfl rfl (reads_sl) (by unfold maxLen; simp only [List.length_nil]; omega) (by simp only [List.length_nil]; omega) rfl (fun A5 c5 => ?_)
  refine oj_step (y_assign rfl) rfl rfl rfl ?_
  refine oj_nil ?_
  refine ej_th (cj_ret ?_)
  exact ej_ret1 rfl Try.results81 rfl (fun w' hp => ⟨A5, c5, by simp, hp.below, by have h9 := hp.resO (A := A5) (e := 9) (c := c5) (sz := 1) (enc := enStr) (xs := [] ++ l); simpa using h9⟩)

set_option maxHeartbeats 2000000 in
theorem k_rtext1 (l : List ClassV) (A : Option Addr) (c : Nat) (x : ItemV) (w : World) (hl : Rd w 4 encCl A l) (hgc : ∀ c ∈ l, GoodC w c) (hgo : gramOk l = true) (hx : GoodI w x) (ho : OkT (gramM l) x.pl) (hcn : cntT x.pl ≤ 24) (ih : ∀ p ∈ x.parts, ∀ (w1 : World), Grow w w1 → Calls Try.prog 99 #[.slice A l.length c, evI p] w1 (fun e w' => e = .returned (.string (txtT (gramM l) p.pl)) ∧ Grow w1 w')) : Calls Try.prog 99 #[.slice A l.length c, evI x] w (fun e w' => e = .returned (.string (txtT (gramM l) x.pl)) ∧ Grow w w') := by
  have hl1 := hx.rs.len
  have hl2 := hx.rp.len
  obtain ⟨cc, hgc0, hsl, ht8, htn⟩ := ho.get
  rw [pl_cls] at hgc0
  rw [pl_says] at hsl
  have hcc : clsOf l x.cls = some cc := by rw [← getL_gram hgo]; exact hgc0
  have hcm : cc ∈ l := List.mem_of_find?_eq_some hcc
  have hg1 := hgc cc hcm
  have htr : traitsOf (gramM l) x.cls = cc.traits := by unfold traitsOf; rw [hgc0]; rfl
  have hTX := txt_eq (gramM l) x.pl
  rw [pl_cls, htr, pl_says] at hTX
  have hsz := txt_size ho hcn
  have hss16 : ∀ s ∈ x.says, s.size ≤ 16 := by have := ho.ssz; rw [pl_says] at this; exact this
  obtain ⟨TX, hTXe⟩ : ∃ T, T = txtT (gramM l) x.pl := ⟨_, rfl⟩
  obtain ⟨ET, hET⟩ : ∃ E, E = bl (if x.pl.parts.length = 0 then [] else [tClose]) := ⟨_, rfl⟩
  rw [← hTXe] at hTX hsz ⊢
  rw [← hET] at hTX
  refine enter_pure (args := [.slice A l.length c, evI x]) [sl (fun b => b < w.heap.size) 4 encCl A l] Try.func99 rfl (by rw [Try.ntmps99]; simp) (fun g hg => by simp at hg; subst hg; exact ⟨hl, fun _ h => h⟩) ?_
  refine cj_seq (cj_region ?_)
  refine oj_box rfl rfl rfl (fun b3 => ?_)
  refine oj_step (y_assign rfl) rfl rfl rfl ?_
  refine oj_nil ?_
  refine ej_th (cj_seq (cj_region ?_))
  refine oj_step (y_move rfl) rfl rfl rfl ?_
  refine oj_step (y_loadN Try.isAgg26 Try.sizeOf26 rfl) rfl rfl rfl ?_
  refine oj_step (y_call Try.call115 rfl (fun w hp => by have h := k_class l A c x w hp.rd hgo; rw [hcc] at h; exact (show Calls Try.prog 115 _ w (fun e w' => e = .returned (.tuple #[evC cc, .bool true]) ∧ Grow w w') from h))) rfl rfl rfl ?_
  refine oj_step (y_move rfl) rfl rfl rfl ?_
  refine oj_step (y_extract rfl rfl) rfl rfl rfl ?_
  refine oj_step (y_extract rfl rfl) rfl rfl rfl ?_
  refine oj_alloc Try.zeroValue114 rfl rfl (fun b5 => ?_)
  refine oj_store rfl rfl rfl rfl Try.sizeOf114 rfl ?_
  refine oj_step (y_assign rfl) rfl rfl rfl ?_
  refine oj_nil ?_
  refine ej_th (cj_seq ?_)
  refine cj_rd hx.rs (fun _ h => h) ?_
  refine cj_rd hx.rp (fun _ h => h) ?_
  refine cj_rd hg1.rt (fun _ h => h) ?_
  refine cj_regionG (gj_step (y_fa0 fa26_0 rfl) rfl rfl rfl (gj_step (y_load1 Try.isAgg9 rfl rfl) rfl rfl rfl (gj_step (y_assign rfl) rfl rfl rfl (gj_nil ?_))))
  refine ej_th (cj_seq (cj_seq ?_))
  refine cj_regionG (gj_step (y_assign rfl) rfl rfl rfl (gj_nil ?_))
  refine ej_th (cj_block ?_)
  refine cj_lpic (X := Nat × ByteArray) [(0, _), (3, _), (4, _), (5, _)] (fun ⟨k, s⟩ => k ≤ x.says.length ∧ s ++ (bl (saidTok (cc.traits.drop k) (x.says.drop k)) ++ (bl (tokP (gramM l) true x.pl.parts) ++ ET)) = TX) (fun ⟨k, s⟩ => [(7, .string s), (8, .int .i64 k)]) (fun ⟨k, s⟩ => x.says.length - k) (0, x.cls) (⟨Nat.zero_le _, hTX.symm⟩) ⟨rfl, rfl, rfl, rfl, rfl, rfl, trivial⟩ ?_
  rintro ⟨k, s⟩ ⟨hk, hin⟩
  dsimp only [List.cons_append, List.nil_append]
  have hss : s.size ≤ 10000 := by
    have h9 := congrArg ByteArray.size hin
    rw [ByteArray.size_append] at h9
    omega
  refine cj_seq (cj_seq ?_)
  refine cj_regionG (gj_step (y_move rfl) rfl rfl rfl (gj_step (y_fa fa26_1 rfl) rfl rfl rfl (gj_step (y_load1 Try.isAgg23 rfl rfl) rfl rfl rfl (gj_step (y_lenA Try.underlying23 rfl) rfl rfl rfl (gj_step (y_lss rfl rfl) rfl rfl rfl (gj_nil ?_))))))
  refine ej_th ?_
  refine cj_cond rfl (fun h22 => ?_) (fun h22 => ?_)
  · have h22b := h22
    try simp only [sxb] at h22
    obtain ⟨t, ht⟩ : ∃ t, cc.traits[k]? = some t := ⟨_, List.getElem?_eq_getElem (by omega)⟩
    obtain ⟨sv, hs⟩ : ∃ sv, x.says[k]? = some sv := ⟨_, List.getElem?_eq_getElem (by omega)⟩
    rw [saidTok_drop _ _ k t sv ht hs] at hin
    refine cj_skip (ej_th (cj_seq (cj_block (cj_seq ?_))))
    refine cj_regionG (gj_step (y_fa fa26_1 rfl) rfl rfl rfl (gj_step (y_load1 Try.isAgg23 rfl rfl) rfl rfl rfl (gj_step (y_move rfl) rfl rfl rfl (gj_step (y_ixR (reads_sl) Try.underlying23 Try.sizeOf9 rfl rfl (⟨by omega, by omega⟩)) rfl rfl rfl (gj_step (y_ld0 (reads_sl) Try.isAgg9 rfl (hs) rfl) rfl rfl rfl (gj_step (y_neqS rfl rfl) rfl rfl rfl (gj_nil ?_)))))))
    refine ej_th ?_
    refine cj_cond rfl (fun h30 => ?_) (fun h30 => ?_)
    · have h30b := h30
      try simp only [sxb] at h30
      rw [if_neg (show ¬ (sv == (⟨#[]⟩ : ByteArray)) = true by rw [not_t h30b]; simp), bl_cons] at hin
      refine cj_draw (by kernel_rfl) (by kernel_rfl) (gj_step (y_move rfl) rfl rfl rfl (gj_step (y_addS rfl rfl (by (try simp only [ByteArray.size_append]); have h1s : (⟨#[32]⟩ : ByteArray).size = 1 := rfl; have h2s : (⟨#[61]⟩ : ByteArray).size = 1 := rfl; have h3s : (⟨#[32, 40]⟩ : ByteArray).size = 2 := rfl; have h4s : (⟨#[32, 59]⟩ : ByteArray).size = 2 := rfl; have h5s : (⟨#[32, 41]⟩ : ByteArray).size = 2 := rfl; omega)) rfl rfl rfl (gj_step (y_fa fa114_1 rfl) rfl rfl rfl (gj_step (y_load1 Try.isAgg112 rfl rfl) rfl rfl rfl (gj_step (y_move rfl) rfl rfl rfl (gj_step (y_ixR (reads_sl) Try.underlying112 Try.sizeOf116 rfl rfl (⟨by omega, by omega⟩)) rfl rfl rfl (gj_step (y_faE fa116_0 rfl) rfl rfl rfl (gj_step (y_ld1 (reads_sl) Try.isAgg9 rfl (ht) rfl) rfl rfl rfl (gj_step (y_addS rfl rfl (by (try simp only [ByteArray.size_append]); have h1s : (⟨#[32]⟩ : ByteArray).size = 1 := rfl; have h2s : (⟨#[61]⟩ : ByteArray).size = 1 := rfl; have h3s : (⟨#[32, 40]⟩ : ByteArray).size = 2 := rfl; have h4s : (⟨#[32, 59]⟩ : ByteArray).size = 2 := rfl; have h5s : (⟨#[32, 41]⟩ : ByteArray).size = 2 := rfl; have h9 := htn t (List.mem_of_getElem? ht); omega)) rfl rfl rfl (gj_step (y_addS rfl rfl (by (try simp only [ByteArray.size_append]); have h1s : (⟨#[32]⟩ : ByteArray).size = 1 := rfl; have h2s : (⟨#[61]⟩ : ByteArray).size = 1 := rfl; have h3s : (⟨#[32, 40]⟩ : ByteArray).size = 2 := rfl; have h4s : (⟨#[32, 59]⟩ : ByteArray).size = 2 := rfl; have h5s : (⟨#[32, 41]⟩ : ByteArray).size = 2 := rfl; have h9 := htn t (List.mem_of_getElem? ht); omega)) rfl rfl rfl (gj_step (y_fa fa26_1 rfl) rfl rfl rfl (gj_step (y_load1 Try.isAgg23 rfl rfl) rfl rfl rfl (gj_step (y_move rfl) rfl rfl rfl (gj_step (y_ixR (reads_sl) Try.underlying23 Try.sizeOf9 rfl rfl (⟨by omega, by omega⟩)) rfl rfl rfl (gj_step (y_ld0 (reads_sl) Try.isAgg9 rfl (hs) rfl) rfl rfl rfl (gj_step (y_addS rfl rfl (by (try simp only [ByteArray.size_append]); have h1s : (⟨#[32]⟩ : ByteArray).size = 1 := rfl; have h2s : (⟨#[61]⟩ : ByteArray).size = 1 := rfl; have h3s : (⟨#[32, 40]⟩ : ByteArray).size = 2 := rfl; have h4s : (⟨#[32, 59]⟩ : ByteArray).size = 2 := rfl; have h5s : (⟨#[32, 41]⟩ : ByteArray).size = 2 := rfl; have h9 := htn t (List.mem_of_getElem? ht); have h8 := hss16 sv (List.mem_of_getElem? hs); omega)) rfl rfl rfl (gj_step (y_assign rfl) rfl rfl rfl (gj_nil ?_))))))))))))))))))
      refine ej_blk (ej_th ?_)
      refine cj_regionG (gj_step (y_move rfl) rfl rfl rfl (gj_step (y_add rfl rfl (by omega)) rfl rfl rfl (gj_step (y_assign rfl) rfl rfl rfl (gj_nil ?_))))
      exact ej_nx (k + 1, s ++ tBl ++ t.name ++ tEq ++ sv) (by simp only; omega) ⟨by first | omega | (simp only; omega), by rw [← hin]; simp only [ByteArray.append_assoc]⟩ ⟨rfl, rfl, rfl, rfl, rfl, rfl, trivial⟩
    · have h30b := h30
      try simp only [sxb] at h30
      rw [if_pos (not_f h30b)] at hin
      refine cj_skip (ej_blk (ej_th ?_))
      refine cj_regionG (gj_step (y_move rfl) rfl rfl rfl (gj_step (y_add rfl rfl (by omega)) rfl rfl rfl (gj_step (y_assign rfl) rfl rfl rfl (gj_nil ?_))))
      exact ej_nx (k + 1, s) (by simp only; omega) ⟨by first | omega | (simp only; omega), hin⟩ ⟨rfl, rfl, rfl, rfl, rfl, rfl, trivial⟩
  · have h22b := h22
    try simp only [sxb] at h22
    have hin2 : s ++ (bl (tokP (gramM l) true x.pl.parts) ++ ET) = TX := by
      rw [← hin, List.drop_of_length_le (show x.says.length ≤ k by omega), show saidTok (cc.traits.drop k) [] = [] by cases cc.traits.drop k <;> simp [saidTok], bl, nil_ba]
    refine cj_exit (ej_then_exit (ej_then_exit (ej_blk_hit (ej_th (cj_seq (cj_seq ?_))))))
    refine cj_regionG (gj_step (y_assign rfl) rfl rfl rfl (gj_nil ?_))
    refine ej_th (cj_block ?_)
    refine cj_lpic (X := Nat × ByteArray) [(0, _), (3, _), (4, _)] (fun ⟨j, s⟩ => j ≤ x.parts.length ∧ s ++ (bl (tokP (gramM l) (decide (j = 0)) (x.pl.parts.drop j)) ++ ET) = TX) (fun ⟨j, s⟩ => [(7, .string s), (9, .int .i64 j)]) (fun ⟨j, s⟩ => x.parts.length - j) (0, s) (⟨Nat.zero_le _, hin2⟩) ⟨rfl, rfl, rfl, rfl, rfl, trivial⟩ ?_
    rintro ⟨j, s⟩ ⟨hj, hin⟩
    dsimp only [List.cons_append, List.nil_append]
    have hss : s.size ≤ 10000 := by
      have h9 := congrArg ByteArray.size hin
      rw [ByteArray.size_append] at h9
      omega
    refine cj_seq (cj_seq ?_)
    refine cj_regionG (gj_step (y_move rfl) rfl rfl rfl (gj_step (y_fa fa26_2 rfl) rfl rfl rfl (gj_step (y_load1 Try.isAgg24 rfl rfl) rfl rfl rfl (gj_step (y_lenA Try.underlying24 rfl) rfl rfl rfl (gj_step (y_lss rfl rfl) rfl rfl rfl (gj_nil ?_))))))
    refine ej_th ?_
    refine cj_cond rfl (fun h51 => ?_) (fun h51 => ?_)
    · have h51b := h51
      try simp only [sxb] at h51
      obtain ⟨q, hq⟩ : ∃ q, x.parts[j]? = some q := ⟨_, List.getElem?_eq_getElem (by omega)⟩
      have hpq : x.pl.parts[j]? = some q.pl := by rw [pl_parts, List.getElem?_map, hq]; rfl
      rw [tokP_drop _ _ j q.pl hpq, bl_cons, bl_append, tok_bl] at hin
      have hqm : q.pl ∈ x.pl.parts := List.mem_of_getElem? hpq
      have hqo := ho.pt _ hqm
      have hqc : cntT q.pl ≤ 24 := by have h1 := cntL_mem _ _ hqm; have h2 := cntT_eq x.pl; omega
      refine cj_skip (ej_th (cj_seq (cj_block (cj_seq (cj_seq ?_)))))
      refine cj_regionG (gj_step (y_move rfl) rfl rfl rfl (gj_step (y_eql rfl rfl) rfl rfl rfl (gj_nil ?_)))
      refine ej_th ?_
      refine cj_cond rfl (fun h55 => ?_) (fun h55 => ?_)
      · have h55b := h55
        try simp only [sxb] at h55
        have hj0 : j = 0 := by simpa using h55b
        rw [if_pos hj0] at hin
        refine cj_regionG (gj_step (y_move rfl) rfl rfl rfl (gj_step (y_addS rfl rfl (by (try simp only [ByteArray.size_append]); have h1s : (⟨#[32]⟩ : ByteArray).size = 1 := rfl; have h2s : (⟨#[61]⟩ : ByteArray).size = 1 := rfl; have h3s : (⟨#[32, 40]⟩ : ByteArray).size = 2 := rfl; have h4s : (⟨#[32, 59]⟩ : ByteArray).size = 2 := rfl; have h5s : (⟨#[32, 41]⟩ : ByteArray).size = 2 := rfl; omega)) rfl rfl rfl (gj_step (y_assign rfl) rfl rfl rfl (gj_nil ?_))))
        refine ej_th ?_
        refine cj_regionG ?_
        refine gj_step (y_move rfl) rfl rfl rfl (gj_step (y_addS rfl rfl (by (try simp only [ByteArray.size_append]); have h1s : (⟨#[32]⟩ : ByteArray).size = 1 := rfl; have h2s : (⟨#[61]⟩ : ByteArray).size = 1 := rfl; have h3s : (⟨#[32, 40]⟩ : ByteArray).size = 2 := rfl; have h4s : (⟨#[32, 59]⟩ : ByteArray).size = 2 := rfl; have h5s : (⟨#[32, 41]⟩ : ByteArray).size = 2 := rfl; omega)) rfl rfl rfl (gj_step (y_move rfl) rfl rfl rfl (gj_step (y_fa fa26_2 rfl) rfl rfl rfl (gj_step (y_load1 Try.isAgg24 rfl rfl) rfl rfl rfl (gj_step (y_move rfl) rfl rfl rfl (gj_step (y_ixR (reads_sl) Try.underlying24 Try.sizeOf26 rfl rfl (⟨by omega, by omega⟩)) rfl rfl rfl (gj_step (y_ldW (reads_sl) Try.isAgg26 Try.sizeOf26 rfl (hq) (fun _ => rfl)) rfl rfl rfl (?_))))))))
        refine gj_step (y_call Try.call99 rfl (fun w hp => ih q (List.mem_of_getElem? hq) w hp.below)) rfl rfl rfl ?_
        refine gj_step (y_addS rfl rfl (by (try simp only [ByteArray.size_append]); have h1s : (⟨#[32]⟩ : ByteArray).size = 1 := rfl; have h2s : (⟨#[61]⟩ : ByteArray).size = 1 := rfl; have h3s : (⟨#[32, 40]⟩ : ByteArray).size = 2 := rfl; have h4s : (⟨#[32, 59]⟩ : ByteArray).size = 2 := rfl; have h5s : (⟨#[32, 41]⟩ : ByteArray).size = 2 := rfl; have hqz := txt_size hqo hqc; omega)) rfl rfl rfl (gj_step (y_assign rfl) rfl rfl rfl (?_))
        refine gj_nil ?_
        refine ej_blk (ej_th ?_)
        refine cj_regionG (gj_step (y_move rfl) rfl rfl rfl (gj_step (y_add rfl rfl (by omega)) rfl rfl rfl (gj_step (y_assign rfl) rfl rfl rfl (gj_nil ?_))))
        exact ej_nx (j + 1, s ++ ⟨#[32, 40]⟩ ++ tBl ++ txtT (gramM l) q.pl) (by simp only; omega) ⟨by first | omega | (simp only; omega), by rw [← hin, show (⟨#[32, 40]⟩ : ByteArray) = tBl ++ tOpen from rfl]; simp only [ByteArray.append_assoc]⟩ ⟨rfl, rfl, rfl, rfl, rfl, trivial⟩
      · have h55b := h55
        try simp only [sxb] at h55
        have hj0 : ¬ j = 0 := by simpa using h55b
        rw [if_neg hj0] at hin
        refine cj_regionG (gj_step (y_move rfl) rfl rfl rfl (gj_step (y_addS rfl rfl (by (try simp only [ByteArray.size_append]); have h1s : (⟨#[32]⟩ : ByteArray).size = 1 := rfl; have h2s : (⟨#[61]⟩ : ByteArray).size = 1 := rfl; have h3s : (⟨#[32, 40]⟩ : ByteArray).size = 2 := rfl; have h4s : (⟨#[32, 59]⟩ : ByteArray).size = 2 := rfl; have h5s : (⟨#[32, 41]⟩ : ByteArray).size = 2 := rfl; omega)) rfl rfl rfl (gj_step (y_assign rfl) rfl rfl rfl (gj_nil ?_))))
        refine ej_th ?_
        refine cj_regionG ?_
        refine gj_step (y_move rfl) rfl rfl rfl (gj_step (y_addS rfl rfl (by (try simp only [ByteArray.size_append]); have h1s : (⟨#[32]⟩ : ByteArray).size = 1 := rfl; have h2s : (⟨#[61]⟩ : ByteArray).size = 1 := rfl; have h3s : (⟨#[32, 40]⟩ : ByteArray).size = 2 := rfl; have h4s : (⟨#[32, 59]⟩ : ByteArray).size = 2 := rfl; have h5s : (⟨#[32, 41]⟩ : ByteArray).size = 2 := rfl; omega)) rfl rfl rfl (gj_step (y_move rfl) rfl rfl rfl (gj_step (y_fa fa26_2 rfl) rfl rfl rfl (gj_step (y_load1 Try.isAgg24 rfl rfl) rfl rfl rfl (gj_step (y_move rfl) rfl rfl rfl (gj_step (y_ixR (reads_sl) Try.underlying24 Try.sizeOf26 rfl rfl (⟨by omega, by omega⟩)) rfl rfl rfl (gj_step (y_ldW (reads_sl) Try.isAgg26 Try.sizeOf26 rfl (hq) (fun _ => rfl)) rfl rfl rfl (?_))))))))
        refine gj_step (y_call Try.call99 rfl (fun w hp => ih q (List.mem_of_getElem? hq) w hp.below)) rfl rfl rfl ?_
        refine gj_step (y_addS rfl rfl (by (try simp only [ByteArray.size_append]); have h1s : (⟨#[32]⟩ : ByteArray).size = 1 := rfl; have h2s : (⟨#[61]⟩ : ByteArray).size = 1 := rfl; have h3s : (⟨#[32, 40]⟩ : ByteArray).size = 2 := rfl; have h4s : (⟨#[32, 59]⟩ : ByteArray).size = 2 := rfl; have h5s : (⟨#[32, 41]⟩ : ByteArray).size = 2 := rfl; have hqz := txt_size hqo hqc; omega)) rfl rfl rfl (gj_step (y_assign rfl) rfl rfl rfl (?_))
        refine gj_nil ?_
        refine ej_blk (ej_th ?_)
        refine cj_regionG (gj_step (y_move rfl) rfl rfl rfl (gj_step (y_add rfl rfl (by omega)) rfl rfl rfl (gj_step (y_assign rfl) rfl rfl rfl (gj_nil ?_))))
        exact ej_nx (j + 1, s ++ ⟨#[32, 59]⟩ ++ tBl ++ txtT (gramM l) q.pl) (by simp only; omega) ⟨by first | omega | (simp only; omega), by rw [← hin, show (⟨#[32, 59]⟩ : ByteArray) = tBl ++ tSemi from rfl]; simp only [ByteArray.append_assoc]⟩ ⟨rfl, rfl, rfl, rfl, rfl, trivial⟩
    · have h51b := h51
      try simp only [sxb] at h51
      have hin3 : s ++ ET = TX := by
        rw [← hin, List.drop_of_length_le (show x.pl.parts.length ≤ j by rw [pl_parts, List.length_map]; omega), tokP, bl, nil_ba]
      refine cj_exit (ej_then_exit (ej_then_exit (ej_blk_hit (ej_th (cj_seq (cj_seq ?_))))))
      refine cj_regionG (gj_step (y_fa fa26_2 rfl) rfl rfl rfl (gj_step (y_load1 Try.isAgg24 rfl rfl) rfl rfl rfl (gj_step (y_lenA Try.underlying24 rfl) rfl rfl rfl (gj_step (y_gtr rfl rfl) rfl rfl rfl (gj_nil ?_)))))
      refine ej_th ?_
      refine cj_cond rfl (fun h73 => ?_) (fun h73 => ?_)
      · have h73b := h73
        try simp only [sxb] at h73
        rw [if_neg (by rw [pl_parts, List.length_map]; omega)] at hET
        refine cj_regionG (gj_step (y_move rfl) rfl rfl rfl (gj_step (y_addS rfl rfl (by (try simp only [ByteArray.size_append]); have h1s : (⟨#[32]⟩ : ByteArray).size = 1 := rfl; have h2s : (⟨#[61]⟩ : ByteArray).size = 1 := rfl; have h3s : (⟨#[32, 40]⟩ : ByteArray).size = 2 := rfl; have h4s : (⟨#[32, 59]⟩ : ByteArray).size = 2 := rfl; have h5s : (⟨#[32, 41]⟩ : ByteArray).size = 2 := rfl; omega)) rfl rfl rfl (gj_step (y_assign rfl) rfl rfl rfl (gj_nil ?_))))
        refine ej_th (cj_seq ?_)
        refine cj_regionG (gj_step (y_move rfl) rfl rfl rfl (gj_step (y_assign rfl) rfl rfl rfl (gj_nil ?_)))
        refine ej_th (cj_ret ?_)
        refine ej_ret1 rfl Try.results99 rfl (fun w' hp => ⟨?_, hp.below⟩)
        rw [← hin3, hET, show (⟨#[32, 41]⟩ : ByteArray) = tBl ++ tClose from rfl, bl, bl, ba_nil, ← ByteArray.append_assoc]
      · have h73b := h73
        try simp only [sxb] at h73
        rw [if_pos (by rw [pl_parts, List.length_map]; omega)] at hET
        refine cj_skip (ej_th (cj_seq ?_))
        refine cj_regionG (gj_step (y_move rfl) rfl rfl rfl (gj_step (y_assign rfl) rfl rfl rfl (gj_nil ?_)))
        refine ej_th (cj_ret ?_)
        refine ej_ret1 rfl Try.results99 rfl (fun w' hp => ⟨?_, hp.below⟩)
        rw [← hin3, hET, bl, ba_nil]

theorem k_rtext (l : List ClassV) (A : Option Addr) (c : Nat) {w0 : World} {x : ItemV} (hx : GoodI w0 x) : ∀ (w : World), Grow w0 w → gramOk l = true → Rd w 4 encCl A l → (∀ c ∈ l, GoodC w c) → OkT (gramM l) x.pl → cntT x.pl ≤ 24 → Calls Try.prog 99 #[.slice A l.length c, evI x] w (fun e w' => e = .returned (.string (txtT (gramM l) x.pl)) ∧ Grow w w') := by
  induction hx with
  | @mk x hs hp hn hm hr ih =>
    intro w hg hgo hl hgc ho hc
    refine k_rtext1 l A c x w hl hgc hgo ((GoodI.mk hs hp hn hm hr).mono hg) ho hc (fun p hpm w1 hg1 => ?_)
    have hpo : p.pl ∈ x.pl.parts := by rw [pl_parts]; exact List.mem_map.2 ⟨p, hpm, rfl⟩
    have hcp : cntT p.pl ≤ 24 := by have h1 := cntL_mem _ _ hpo; have h2 := cntT_eq x.pl; omega
    exact ih p hpm w1 (grow_trans hg hg1) hgo (hl.mono hg1) (fun q hq => (hgc q hq).mono hg1) (ho.pt _ hpo) hcp

end Go.Proofs.Ytlfbghkcfmcnlaa
namespace Go.Proofs.Ytlfbghkcfmcnlaa
open Go.Sx Go.RowKit
set_option maxRecDepth 20000

end Go.Proofs.Ytlfbghkcfmcnlaa
namespace Go.Proofs.Ytlfbghkcfmcnlaa
open Go.Sx Go.RowKit
set_option maxRecDepth 20000
theorem hp_its {F : Nat → Prop} {w0 w : World} {O S : List Fact} (hp : Hp F w0 O S w) (fp : Nat → Prop) (l : List ItemV) [h : MemS (itF fp l) S] : ∀ x ∈ l, GoodI w x := it_good hp h.mem

set_option maxHeartbeats 4000000 in
theorem k_rsort1 (l : List ClassV) (A : Option Addr) (c : Nat) (x : ItemV) (w : World) (hl : Rd w 4 encCl A l) (hgc : ∀ c ∈ l, GoodC w c) (hgo : gramOk l = true) (hx : GoodI w x) (ho : OkT (gramM l) x.pl) (hcn : cntT x.pl ≤ 24) (ih : ∀ p ∈ x.parts, ∀ (w1 : World), Grow w w1 → Calls Try.prog 54 #[.slice A l.length c, evI p] w1 (fun e w' => ∃ y : ItemV, e = .returned (evI y) ∧ Grow w1 w' ∧ y.pl = sortT (gramM l) p.pl ∧ GoodF (fun i => w1.heap.size ≤ i ∧ i < w'.heap.size) w' y)) : Calls Try.prog 54 #[.slice A l.length c, evI x] w (fun e w' => ∃ y : ItemV, e = .returned (evI y) ∧ Grow w w' ∧ y.pl = sortT (gramM l) x.pl ∧ GoodF (fun i => w.heap.size ≤ i ∧ i < w'.heap.size) w' y) := by
  have hl1 := hx.rs.len
  have hl2 := hx.rp.len
  have hp6 : x.parts.length ≤ 6 := by have := ho.few; rw [pl_parts, List.length_map] at this; exact this
  obtain ⟨cc, hgc0, hsl, ht8, htn⟩ := ho.get
  rw [pl_says] at hsl
  refine enter_pure (args := [.slice A l.length c, evI x]) [sl (fun b => b < w.heap.size) 4 encCl A l] Try.func54 rfl (by rw [Try.ntmps54]; simp) (fun g hg => by simp at hg; subst hg; exact ⟨hl, fun _ h => h⟩) ?_
  refine cj_seq (cj_region ?_)
  refine oj_box rfl rfl rfl (fun b3 => ?_)
  refine oj_alloc Try.zeroValue26 rfl rfl (fun b4 => ?_)
  refine oj_nil ?_
  refine ej_th ?_
  refine cj_cuti (X := Nat × Option Addr × Nat × (Nat → Prop)) [(0, _), (3, _), (4, _)] ⟨rfl, rfl, rfl, trivial⟩ (fun ⟨b5, A14, c14, fp14⟩ => ∀ i, fp14 i → w.heap.size ≤ i) (fun ⟨b5, A14, c14, fp14⟩ => [(5, .pointer (some ⟨b5, 0, none⟩))]) (fun ⟨b5, A14, c14, fp14⟩ => [ownB b5 (cellsB 26 [.string x.cls, .slice A14 x.says.length c14, .slice none 0 0]), ownB b4 (cellsB 26 [.string ⟨#[]⟩, .slice none 0 0, .slice none 0 0]), ownB b3 (cellsB 26 [.string x.cls, .slice x.As x.says.length x.cs, .slice x.Ap x.parts.length x.cp])]) (fun ⟨b5, A14, c14, fp14⟩ => [sl fp14 1 enStr A14 x.says, sl (fun b => b < w.heap.size) 4 encCl A l]) ?_ ?_
  · refine cj_rd hx.rs (fun _ h => h) ?_
    refine cj_plan 8 (by kernel_rfl) (by kernel_rfl) ?_
    refine pl_y 0 rfl (y_fa0 fa26_0 rfl) rfl rfl rfl rfl (by kernel_rfl) ?_
    refine pl_y 1 rfl (y_load1 Try.isAgg9 rfl rfl) rfl rfl rfl rfl (by kernel_rfl) ?_
    refine pl_y 2 rfl (y_fa fa26_1 rfl) rfl rfl rfl rfl (by kernel_rfl) ?_
    refine pl_y 3 rfl (y_load1 Try.isAgg23 rfl rfl) rfl rfl rfl rfl (by kernel_rfl) ?_
    refine pl_w2 4 6 (by kernel_rfl) rfl rfl (pl_fire rfl rfl rfl (by kernel_rfl) ?_) (pl_fire rfl rfl rfl (by kernel_rfl) ?_)
    · refine oj_callS (fun A c => .slice A x.says.length c) 1 enStr x.says Try.call81 rfl (fun w hp => (k_OwnTexts x.says x.As x.cs w hp.rd (by omega)).mono fun e w' ⟨B, d, he, hg, hO, hn⟩ => ⟨B, d, he, hg, by unfold maxLen; omega, fun hne => by
        obtain ⟨a, ha, hc⟩ := ow_cells hO (fun _ => rfl) hne
        refine ⟨a, ha, ⟨hn a.block (by rw [ha]; rfl), ?_⟩, hc⟩
        exact ow_lt hO hne a.block (by rw [ha]; rfl)⟩) rfl (fun A14 c14 fp14 hfp14 => ?_)
      refine oj_nil ?_
      refine ej_pl (lt_w (by kernel_rfl) (lt_y (y_fa fa26_1 rfl) rfl (lt_y (y_load1 Try.isAgg9 rfl rfl) rfl (lt_y (y_fa0 fa26_0 rfl) rfl (lt_nil))))) ?_
      refine pl_y 5 rfl (y_build (cs := [.string x.cls, .slice A14 x.says.length c14, .slice none 0 0]) st26 rfl (by kernel_rfl)) rfl rfl rfl rfl (by kernel_rfl) ?_
      refine pl_w1 6 (by kernel_rfl) rfl rfl (pl_fire rfl rfl rfl (by kernel_rfl) ?_)
      refine oj_alloc Try.zeroValue26 rfl rfl (fun b5 => ?_)
      refine oj_nil ?_
      refine ej_pl (lt_y (y_build (cs := [.string x.cls, .slice A14 x.says.length c14, .slice none 0 0]) st26 rfl (by kernel_rfl)) rfl (lt_y (y_load1 Try.isAgg23 rfl rfl) rfl (lt_y (y_fa fa26_1 rfl) rfl (lt_y (y_load1 Try.isAgg9 rfl rfl) rfl (lt_y (y_fa0 fa26_0 rfl) rfl (lt_nil)))))) ?_
      refine pl_w1 7 (by kernel_rfl) rfl rfl (pl_fire rfl rfl rfl (by kernel_rfl) ?_)
      refine oj_store rfl rfl rfl rfl Try.sizeOf26 rfl ?_
      refine oj_nil ?_
      refine ej_pl (lt_w (by kernel_rfl) (lt_w (by kernel_rfl) (lt_w (by kernel_rfl) (lt_w (by kernel_rfl) (lt_w (by kernel_rfl) (lt_nil)))))) ?_
      refine pl_end (by kernel_rfl) ?_
      exact ej_ct ⟨b5, A14, c14, fp14⟩ hfp14 ⟨rfl, rfl, rfl, rfl, trivial⟩
    · refine oj_alloc Try.zeroValue26 rfl rfl (fun b5 => ?_)
      refine oj_nil ?_
      refine ej_pl (lt_y (y_load1 Try.isAgg23 rfl rfl) rfl (lt_y (y_fa fa26_1 rfl) rfl (lt_y (y_load1 Try.isAgg9 rfl rfl) rfl (lt_y (y_fa0 fa26_0 rfl) rfl (lt_nil))))) ?_
      refine pl_w1 4 (by kernel_rfl) rfl rfl (pl_fire rfl rfl rfl (by kernel_rfl) ?_)
      refine oj_callS (fun A c => .slice A x.says.length c) 1 enStr x.says Try.call81 rfl (fun w hp => (k_OwnTexts x.says x.As x.cs w hp.rd (by omega)).mono fun e w' ⟨B, d, he, hg, hO, hn⟩ => ⟨B, d, he, hg, by unfold maxLen; omega, fun hne => by
        obtain ⟨a, ha, hc⟩ := ow_cells hO (fun _ => rfl) hne
        refine ⟨a, ha, ⟨hn a.block (by rw [ha]; rfl), ?_⟩, hc⟩
        exact ow_lt hO hne a.block (by rw [ha]; rfl)⟩) rfl (fun A14 c14 fp14 hfp14 => ?_)
      refine oj_nil ?_
      refine ej_pl (lt_w (by kernel_rfl) (lt_y (y_fa fa26_1 rfl) rfl (lt_y (y_load1 Try.isAgg9 rfl rfl) rfl (lt_y (y_fa0 fa26_0 rfl) rfl (lt_nil))))) ?_
      refine pl_y 5 rfl (y_build (cs := [.string x.cls, .slice A14 x.says.length c14, .slice none 0 0]) st26 rfl (by kernel_rfl)) rfl rfl rfl rfl (by kernel_rfl) ?_
      refine pl_w1 7 (by kernel_rfl) rfl rfl (pl_fire rfl rfl rfl (by kernel_rfl) ?_)
      refine oj_store rfl rfl rfl rfl Try.sizeOf26 rfl ?_
      refine oj_nil ?_
      refine ej_pl (lt_w (by kernel_rfl) (lt_w (by kernel_rfl) (lt_w (by kernel_rfl) (lt_w (by kernel_rfl) (lt_w (by kernel_rfl) (lt_nil)))))) ?_
      refine pl_end (by kernel_rfl) ?_
      exact ej_ct ⟨b5, A14, c14, fp14⟩ hfp14 ⟨rfl, rfl, rfl, rfl, trivial⟩
  · rintro ⟨b5, A14, c14, fp14⟩ hfp14
    dsimp only [List.cons_append, List.nil_append]
    refine cj_seq (cj_seq ?_)
    refine cj_regionG (gj_step (y_assign rfl) rfl rfl rfl (gj_nil ?_))
    refine ej_th (cj_block ?_)
    refine cj_ownNil 26 3 encIt ?_
    refine cj_rd hx.rp (fun _ h => h) ?_
    refine cj_addS (itF (fun _ => False) []) (fun w hp => ⟨fun z hz => (by cases hz), fun i hi => hi.elim⟩) ?_
    refine cj_eqO [ow 26 3 encIt none 0 ([] : List ItemV), ownB b5 (cellsB 26 [.string x.cls, .slice A14 x.says.length c14, .slice none ([] : List ItemV).length 0]), ownB b4 (cellsB 26 [.string ⟨#[]⟩, .slice none 0 0, .slice none 0 0]), ownB b3 (cellsB 26 [.string x.cls, .slice x.As x.says.length x.cs, .slice x.Ap x.parts.length x.cp])] rfl ?_
    refine cj_lpi (X := Nat × Option Addr × Nat × List ItemV × (Nat → Prop)) [(5, _), (0, _), (3, _), (4, _)] (fun ⟨k, A1, c1, ys, fp⟩ => k ≤ x.parts.length ∧ ys.map ItemV.pl = lsort (ltT (gramM l)) [] ((x.parts.take k).map (fun p => sortT (gramM l) p.pl)) ∧ ys.length = k ∧ ∀ i, fp i → w.heap.size ≤ i) (fun ⟨k, A1, c1, ys, fp⟩ => [(6, .int .i64 k)]) (fun ⟨k, A1, c1, ys, fp⟩ => [ow 26 3 encIt A1 c1 ys, ownB b5 (cellsB 26 [.string x.cls, .slice A14 x.says.length c14, .slice A1 ys.length c1]), ownB b4 (cellsB 26 [.string ⟨#[]⟩, .slice none 0 0, .slice none 0 0]), ownB b3 (cellsB 26 [.string x.cls, .slice x.As x.says.length x.cs, .slice x.Ap x.parts.length x.cp])]) (fun ⟨k, A1, c1, ys, fp⟩ => [itF fp ys, sl (fun b => b < w.heap.size) 3 encIt x.Ap x.parts, sl fp14 1 enStr A14 x.says, sl (fun b => b < w.heap.size) 4 encCl A l]) (fun ⟨k, A1, c1, ys, fp⟩ => x.parts.length - k) (0, none, 0, [], fun _ => False) (⟨Nat.zero_le _, rfl, rfl, fun i h => h.elim⟩) ⟨rfl, rfl, rfl, rfl, rfl, trivial⟩ ?_
    rintro ⟨k, A1, c1, ys, fp⟩ ⟨hk, hys, hxl, hfn⟩
    dsimp only [List.cons_append, List.nil_append]
    have hmS : itF fp ys ∈ [itF fp ys, sl (fun b => b < w.heap.size) 3 encIt x.Ap x.parts, sl fp14 1 enStr A14 x.says, sl (fun b => b < w.heap.size) 4 encCl A l] := List.mem_cons_self ..
    refine cj_seq (cj_seq ?_)
    refine cj_regionG (gj_step (y_move rfl) rfl rfl rfl (gj_step (y_fa fa26_2 rfl) rfl rfl rfl (gj_step (y_load1 Try.isAgg24 rfl rfl) rfl rfl rfl (gj_step (y_lenA Try.underlying24 rfl) rfl rfl rfl (gj_step (y_lss rfl rfl) rfl rfl rfl (gj_nil ?_))))))
    refine ej_th ?_
    refine cj_cond rfl (fun h20 => ?_) (fun h20 => ?_)
    · have h20b := h20
      try simp only [sxb] at h20
      obtain ⟨q, hq⟩ : ∃ q, x.parts[k]? = some q := ⟨_, List.getElem?_eq_getElem (by omega)⟩
      have hqm : q.pl ∈ x.pl.parts := by rw [pl_parts]; exact List.mem_map.2 ⟨q, List.mem_of_getElem? hq, rfl⟩
      have hqo := ho.pt _ hqm
      have hqc : cntT q.pl ≤ 24 := by have h1 := cntL_mem _ _ hqm; have h2 := cntT_eq x.pl; omega
      refine cj_skip (ej_th (cj_seq (cj_block (cj_seq (cj_region ?_)))))
      refine oj_step (y_move rfl) rfl rfl rfl ?_
      refine oj_step (y_fa fa26_2 rfl) rfl rfl rfl ?_
      refine oj_step (y_load1 Try.isAgg24 rfl rfl) rfl rfl rfl ?_
      refine oj_step (y_move rfl) rfl rfl rfl ?_
      refine oj_step (y_ixR (reads_sl) Try.underlying24 Try.sizeOf26 rfl rfl (⟨by omega, by omega⟩)) rfl rfl rfl ?_
      refine oj_step (y_ldW (reads_sl) Try.isAgg26 Try.sizeOf26 rfl (hq) (fun _ => rfl)) rfl rfl rfl ?_
      refine oj_call (X := { z : ItemV × Nat × Nat // z.1.pl = sortT (gramM l) q.pl ∧ w.heap.size ≤ z.2.1 }) (fun z => evI z.1.1) (fun _ => []) (fun z => [itF (fun i => z.1.2.1 ≤ i ∧ i < z.1.2.2) [z.1.1]]) Try.call54 rfl (fun w1 hp => (ih q (List.mem_of_getElem? hq) w1 hp.below).mono fun e w2 ⟨y, he, hg, hy, hG⟩ => ⟨⟨(y, w1.heap.size, w2.heap.size), hy, hp.size⟩, he, hg, by simp, by simp, fun f hf => by
        rw [List.mem_singleton.1 hf]
        exact ⟨fun z hz => by rw [List.mem_singleton.1 hz]; exact hG, fun i hi => ⟨hi.1, hi.2, by simp⟩⟩⟩) rfl ?_
      rintro ⟨⟨y, n1, n2⟩, hy, hn1⟩
      dsimp only [List.cons_append, List.nil_append] at hy hn1 ⊢
      refine oj_alloc Try.zeroValue26 rfl rfl (fun b7 => ?_)
      refine oj_store rfl rfl rfl rfl Try.sizeOf26 rfl ?_
      refine oj_nil ?_
      refine ej_th (cj_seq ?_)
      have hyo : OkT (gramM l) y.pl := by rw [hy]; exact sort_ok hqo
      have hyc : cntT y.pl ≤ 24 := by rw [hy, sort_cnt]; exact hqc
      have hso : ∀ z ∈ ys, SortI (gramM l) z := by
        intro z hz
        have hz2 : z.pl ∈ lsort (ltT (gramM l)) [] ((x.parts.take k).map (fun p => sortT (gramM l) p.pl)) := by rw [← hys]; exact List.mem_map.2 ⟨z, hz, rfl⟩
        rw [← (isort_L (ltT_weak (gramM l)) _ [] List.Pairwise.nil).1, isort_mem] at hz2
        rcases hz2 with h | h
        · cases h
        obtain ⟨p, hp, he⟩ := List.mem_map.1 h
        have hpo : p.pl ∈ x.pl.parts := by rw [pl_parts]; exact List.mem_map.2 ⟨p, List.mem_of_mem_take hp, rfl⟩
        refine ⟨by rw [← he]; exact sort_ok (ho.pt _ hpo), ?_⟩
        rw [← he, sort_cnt]
        have h1 := cntL_mem _ _ hpo
        have h2 := cntT_eq x.pl
        omega
      refine cj_regionG (gj_step (y_assign rfl) rfl rfl rfl (gj_nil ?_))
      refine ej_th (cj_seq (cj_block ?_))
      refine cj_lpic (X := Nat) [(6, _), (5, _), (0, _), (3, _), (4, _), (7, _)] (fun j => j ≤ ys.length ∧ insF (ltV (gramM l)) y (ys.drop j) j = insF (ltV (gramM l)) y ys 0) (fun j => [(8, .int .i64 j)]) (fun j => ys.length - j) 0 (⟨Nat.zero_le _, rfl⟩) ⟨rfl, rfl, rfl, rfl, rfl, rfl, rfl, trivial⟩ ?_
      rintro j ⟨hj, hin⟩
      dsimp only [List.cons_append, List.nil_append]
      refine cj_seq (cj_seq ?_)
      refine cj_draw (by kernel_rfl) (by kernel_rfl) ?_
      refine gj_step (y_move rfl) rfl rfl rfl (gj_step (y_fa fa26_2 rfl) rfl rfl rfl (gj_step (y_load1 Try.isAgg24 rfl rfl) rfl rfl rfl (gj_step (y_lenA Try.underlying24 rfl) rfl rfl rfl (gj_step (y_lss rfl rfl) rfl rfl rfl (gj_step (y_move rfl) rfl rfl rfl (?_))))))
      refine gj_g 12 35 47 rfl rfl rfl rfl (fun hg35 => gj_yes rfl rfl rfl (y_move rfl) rfl rfl (gj_yes rfl rfl rfl (y_loadN Try.isAgg26 Try.sizeOf26 rfl) rfl rfl (gj_yes rfl rfl rfl (y_call Try.call99 rfl (fun w hp => by
        have h1 : GoodI w _ := hp_it hp (fun i => n1 ≤ i ∧ i < n2) y
        have h := k_rtext l A c h1 w (Below.refl _ _) hgo hp.rd (fun q hq => (hgc q hq).mono hp.below) hyo hyc
        exact h)) rfl rfl (gj_yes rfl rfl rfl (y_move rfl) rfl rfl (gj_yes rfl rfl rfl (y_fa fa26_2 rfl) rfl rfl (gj_yes rfl rfl rfl (y_load1 Try.isAgg24 rfl rfl) rfl rfl (gj_yes rfl rfl rfl (y_move rfl) rfl rfl (gj_yes rfl rfl rfl (y_ixR (reads_ow encIt_len) Try.underlying24 Try.sizeOf26 rfl rfl (⟨by omega, by have := hg35; simp only [sxb] at this; omega⟩)) rfl rfl (gj_yes rfl rfl rfl (y_ldW (reads_ow encIt_len) Try.isAgg26 Try.sizeOf26 rfl (geq default (by have := hg35; simp only [sxb] at this; omega)) (fun _ => rfl)) rfl rfl (gj_yes rfl rfl rfl (y_call Try.call99 rfl (fun w hp => by
        have h1 : GoodI w _ := hp_its hp fp ys (ys.getD j default) (memD (show j < ys.length by have := hg35; simp only [sxb] at this; omega))
        have h := k_rtext l A c h1 w (Below.refl _ _) hgo hp.rd (fun q hq => (hgc q hq).mono hp.below) (hso _ (memD (show j < ys.length by have := hg35; simp only [sxb] at this; omega))).ok (hso _ (memD (show j < ys.length by have := hg35; simp only [sxb] at this; omega))).cnt
        exact h)) rfl rfl (gj_yes rfl rfl rfl (y_call Try.call98 rfl (fun w hp => k_Less _ _ w (by have := txt_size hyo hyc; omega))) rfl rfl (gj_yes rfl rfl rfl (y_not rfl) rfl rfl (gj_nil rfl))))))))))))) ?_
      refine gj_step (y_and rfl rfl rfl) rfl rfl rfl (?_)
      refine gj_nil ?_
      refine ej_th ?_
      refine cj_cond rfl (fun h48 => ?_) (fun h48 => ?_)
      · have h48b := h48
        try simp only [sxb] at h48
        rw [Bool.and_eq_true, decide_eq_true_eq] at h48b
        have hjl : j < ys.length := by omega
        have hin2 := insF_go (ltV (gramM l)) y ys default j hjl hin (by have h9 := h48b.2; rw [Bool.not_eq_true'] at h9; exact h9)
        refine cj_skip (ej_th (cj_block ?_))
        refine cj_regionG (gj_step (y_move rfl) rfl rfl rfl (gj_step (y_add rfl rfl (by omega)) rfl rfl rfl (gj_step (y_assign rfl) rfl rfl rfl (gj_nil ?_))))
        refine ej_blk ?_
        exact ej_nx (j + 1) (by omega) ⟨by omega, hin2⟩ ⟨rfl, rfl, rfl, rfl, rfl, rfl, rfl, trivial⟩
      · have h48b := h48
        try simp only [sxb] at h48
        have hat : insF (ltV (gramM l)) y ys 0 = j := insF_stop (ltV (gramM l)) y ys default j hj hin h48b
        refine cj_get (fun w hp => hp.owCap (A := A1) (e := 26) (c := c1) (sz := 3) (enc := encIt) (xs := ys)) (fun hcap => ?_)
        refine cj_exit (ej_then_exit (ej_then_exit (ej_blk_hit (ej_th (cj_seq ?_)))))
        skip
        refine cj_regionG (gj_step (y_assign rfl) rfl rfl rfl (gj_nil ?_))
        refine ej_th (cj_seq ?_)
        refine cj_ownNil 26 3 encIt ?_
        refine cj_plan 15 (by kernel_rfl) (by kernel_rfl) ?_
        refine pl_y 0 rfl (y_move rfl) rfl rfl rfl rfl (by kernel_rfl) ?_
        refine pl_y 1 rfl (y_fa fa26_2 rfl) rfl rfl rfl rfl (by kernel_rfl) ?_
        refine pl_y 2 rfl (y_load1 Try.isAgg24 rfl rfl) rfl rfl rfl rfl (by kernel_rfl) ?_
        refine pl_y 3 rfl (y_move rfl) rfl rfl rfl rfl (by kernel_rfl) ?_
        refine pl_y 4 rfl (y_sliceR (xs := ys) 0 j Try.underlying24 Try.sizeOf26 rfl rfl rfl (Nat.zero_le _) (by omega) hcap) rfl rfl rfl rfl (by kernel_rfl) ?_
        refine pl_y 6 rfl (y_loadN Try.isAgg26 Try.sizeOf26 rfl) rfl rfl rfl rfl (by kernel_rfl) ?_
        refine pl_y 9 rfl (y_fa fa26_2 rfl) rfl rfl rfl rfl (by kernel_rfl) ?_
        refine pl_y 10 rfl (y_load1 Try.isAgg24 rfl rfl) rfl rfl rfl rfl (by kernel_rfl) ?_
        refine pl_y 11 rfl (y_move rfl) rfl rfl rfl rfl (by kernel_rfl) ?_
        refine pl_y 12 rfl (y_sliceR (xs := ys) j ys.length Try.underlying24 Try.sizeOf26 rfl rfl rfl (by omega) (Nat.le_refl _) hcap) rfl rfl rfl rfl (by kernel_rfl) ?_
        refine pl_w2 5 7 (by kernel_rfl) rfl rfl (pl_fire rfl rfl rfl (by kernel_rfl) ?_) (pl_fire rfl rfl rfl (by kernel_rfl) ?_)
        · refine oj_append (xs := ([] : List ItemV)) el24 (fun _ => rfl) encIt_one rfl rfl rfl (reads_sub (reads_ow encIt_len) 0 j hcap) (by unfold maxLen; simp only [List.length_nil, List.drop_zero, List.length_take]; omega) (by simp only [List.length_nil, List.drop_zero, List.length_take]; omega) rfl (fun A56 c56 => ?_)
          refine oj_nil ?_
          refine ej_pl (lt_y (y_sliceR (xs := ys) j ys.length Try.underlying24 Try.sizeOf26 rfl rfl rfl (by omega) (Nat.le_refl _) hcap) rfl (lt_y (y_move rfl) rfl (lt_y (y_load1 Try.isAgg24 rfl rfl) rfl (lt_y (y_fa fa26_2 rfl) rfl (lt_y (y_loadN Try.isAgg26 Try.sizeOf26 rfl) rfl (lt_w (by kernel_rfl) (lt_y (y_move rfl) rfl (lt_y (y_load1 Try.isAgg24 rfl rfl) rfl (lt_y (y_fa fa26_2 rfl) rfl (lt_w (by kernel_rfl) (lt_nil))))))))))) ?_
          refine pl_w1 7 (by kernel_rfl) rfl rfl (pl_fire rfl rfl rfl (by kernel_rfl) ?_)
          refine oj_buildSlice (cs := [.string y.cls, .slice y.As y.says.length y.cs, .slice y.Ap y.parts.length y.cp]) [.string ⟨#[]⟩, .slice none 0 0, .slice none 0 0] Try.underlying24 Try.sizeOf26 Try.zeroValue26 rfl rfl (by kernel_rfl) (by kernel_rfl) rfl (fun b58 => ?_)
          refine oj_nil ?_
          refine ej_pl (lt_y (y_sliceR (xs := ys) j ys.length Try.underlying24 Try.sizeOf26 rfl rfl rfl (by omega) (Nat.le_refl _) hcap) rfl (lt_y (y_move rfl) rfl (lt_y (y_load1 Try.isAgg24 rfl rfl) rfl (lt_y (y_fa fa26_2 rfl) rfl (lt_w (by kernel_rfl) (lt_y (y_sliceR (xs := ys) 0 j Try.underlying24 Try.sizeOf26 rfl rfl rfl (Nat.zero_le _) (by omega) hcap) rfl (lt_y (y_move rfl) rfl (lt_y (y_load1 Try.isAgg24 rfl rfl) rfl (lt_y (y_fa fa26_2 rfl) rfl (lt_y (y_move rfl) rfl (lt_nil))))))))))) ?_
          refine pl_w1 8 (by kernel_rfl) rfl rfl (pl_fire rfl rfl rfl (by kernel_rfl) ?_)
          refine oj_append  el24 (fun _ => rfl) encIt_one rfl rfl rfl (reads_lit [y] (fun _ => rfl) rfl) (by unfold maxLen; simp only [List.length_append, List.length_cons, List.length_nil, List.drop_zero, List.length_take]; omega) (by simp only [List.length_append, List.length_cons, List.length_nil, List.drop_zero, List.length_take]; omega) rfl (fun A59 c59 => ?_)
          refine oj_nil ?_
          refine ej_pl (lt_y (y_sliceR (xs := ys) j ys.length Try.underlying24 Try.sizeOf26 rfl rfl rfl (by omega) (Nat.le_refl _) hcap) rfl (lt_y (y_move rfl) rfl (lt_y (y_load1 Try.isAgg24 rfl rfl) rfl (lt_y (y_fa fa26_2 rfl) rfl (lt_y (y_loadN Try.isAgg26 Try.sizeOf26 rfl) rfl (lt_y (y_sliceR (xs := ys) 0 j Try.underlying24 Try.sizeOf26 rfl rfl rfl (Nat.zero_le _) (by omega) hcap) rfl (lt_y (y_move rfl) rfl (lt_y (y_load1 Try.isAgg24 rfl rfl) rfl (lt_y (y_fa fa26_2 rfl) rfl (lt_y (y_move rfl) rfl (lt_nil))))))))))) ?_
          refine pl_w1 13 (by kernel_rfl) rfl rfl (pl_fire rfl rfl rfl (by kernel_rfl) ?_)
          refine oj_append  el24 (fun _ => rfl) encIt_one rfl rfl rfl (reads_sub (reads_ow encIt_len) j ys.length hcap) (by unfold maxLen; simp only [List.length_append, List.length_cons, List.length_nil, List.drop_zero, List.length_take, List.length_drop]; omega) (by simp only [List.length_append, List.length_cons, List.length_nil, List.drop_zero, List.length_take, List.length_drop]; omega) rfl (fun A64 c64 => ?_)
          refine oj_nil ?_
          refine ej_pl (lt_w (by kernel_rfl) (lt_y (y_move rfl) rfl (lt_y (y_load1 Try.isAgg24 rfl rfl) rfl (lt_y (y_fa fa26_2 rfl) rfl (lt_y (y_loadN Try.isAgg26 Try.sizeOf26 rfl) rfl (lt_y (y_sliceR (xs := ys) 0 j Try.underlying24 Try.sizeOf26 rfl rfl rfl (Nat.zero_le _) (by omega) hcap) rfl (lt_y (y_move rfl) rfl (lt_y (y_load1 Try.isAgg24 rfl rfl) rfl (lt_y (y_fa fa26_2 rfl) rfl (lt_y (y_move rfl) rfl (lt_nil))))))))))) ?_
          refine pl_y 14 rfl (y_assign rfl) rfl rfl rfl rfl (by kernel_rfl) ?_
          refine pl_end (by kernel_rfl) ?_
          refine ej_th ?_
          have hil : (([] ++ (ys.take j).drop 0) ++ [y]) ++ (ys.take ys.length).drop j = insL (ltV (gramM l)) ys y := by unfold insL; rw [hat]; simp
          rw [hil]
          refine cj_region ?_
          refine oj_step (y_move rfl) rfl rfl rfl ?_
          refine oj_step (y_fa fa26_2 rfl) rfl rfl rfl ?_
          refine oj_store rfl rfl rfl rfl Try.sizeOf24 rfl ?_
          refine oj_nil ?_
          refine ej_blk (ej_th ?_)
          refine cj_regionG (gj_step (y_move rfl) rfl rfl rfl (gj_step (y_add rfl rfl (by omega)) rfl rfl rfl (gj_step (y_assign rfl) rfl rfl rfl (gj_nil ?_))))
          refine ej_addS (itF (fun i => fp i ∨ (n1 ≤ i ∧ i < n2)) (insL (ltV (gramM l)) ys y)) (fun w1 hp => ?_) ?_
          · have h1 := hp.shared (itF fp ys) (by simp)
            have h2 := hp.shared (itF (fun i => n1 ≤ i ∧ i < n2) [y]) (by simp)
            refine ⟨fun z hz => ?_, fun i hi => ?_⟩
            · unfold insL at hz
              rw [List.mem_append, List.mem_cons] at hz
              rcases hz with hz | rfl | hz
              · exact (h1.1 z (List.mem_of_mem_take hz)).fp (fun _ h => .inl h)
              · exact (h2.1 z (List.mem_cons_self ..)).fp (fun _ h => .inr h)
              · exact (h1.1 z (List.mem_of_mem_drop hz)).fp (fun _ h => .inl h)
            · rcases hi with hi | hi
              · exact ⟨h1.2.1 i hi, fun g hg => h1.2.2 g hg i hi⟩
              · exact ⟨h2.2.1 i hi, fun g hg => h2.2.2 g hg i hi⟩
          have hnl : (insL (ltV (gramM l)) ys y).length = k + 1 := by rw [← hil]; simp only [List.length_append, List.length_cons, List.length_nil, List.drop_zero, List.length_take, List.length_drop]; omega
          exact ej_nx (k + 1, A64, c64, insL (ltV (gramM l)) ys y, fun i => fp i ∨ (n1 ≤ i ∧ i < n2)) (by simp only; omega) ⟨by first | omega | (simp only; omega), by rw [lsort_map_snoc (gramM l) ys y _ hys, List.take_add_one, hq, hy]; simp, hnl, fun i hi => by rcases hi with hi | hi; exact hfn i hi; omega⟩ ⟨rfl, rfl, rfl, rfl, rfl, trivial⟩
        · refine oj_buildSlice (cs := [.string y.cls, .slice y.As y.says.length y.cs, .slice y.Ap y.parts.length y.cp]) [.string ⟨#[]⟩, .slice none 0 0, .slice none 0 0] Try.underlying24 Try.sizeOf26 Try.zeroValue26 rfl rfl (by kernel_rfl) (by kernel_rfl) rfl (fun b58 => ?_)
          refine oj_nil ?_
          refine ej_pl (lt_y (y_sliceR (xs := ys) j ys.length Try.underlying24 Try.sizeOf26 rfl rfl rfl (by omega) (Nat.le_refl _) hcap) rfl (lt_y (y_move rfl) rfl (lt_y (y_load1 Try.isAgg24 rfl rfl) rfl (lt_y (y_fa fa26_2 rfl) rfl (lt_w (by kernel_rfl) (lt_y (y_sliceR (xs := ys) 0 j Try.underlying24 Try.sizeOf26 rfl rfl rfl (Nat.zero_le _) (by omega) hcap) rfl (lt_y (y_move rfl) rfl (lt_y (y_load1 Try.isAgg24 rfl rfl) rfl (lt_y (y_fa fa26_2 rfl) rfl (lt_y (y_move rfl) rfl (lt_nil))))))))))) ?_
          refine pl_w1 5 (by kernel_rfl) rfl rfl (pl_fire rfl rfl rfl (by kernel_rfl) ?_)
          refine oj_append (xs := ([] : List ItemV)) el24 (fun _ => rfl) encIt_one rfl rfl rfl (reads_sub (reads_ow encIt_len) 0 j hcap) (by unfold maxLen; simp only [List.length_nil, List.drop_zero, List.length_take]; omega) (by simp only [List.length_nil, List.drop_zero, List.length_take]; omega) rfl (fun A56 c56 => ?_)
          refine oj_nil ?_
          refine ej_pl (lt_y (y_sliceR (xs := ys) j ys.length Try.underlying24 Try.sizeOf26 rfl rfl rfl (by omega) (Nat.le_refl _) hcap) rfl (lt_y (y_move rfl) rfl (lt_y (y_load1 Try.isAgg24 rfl rfl) rfl (lt_y (y_fa fa26_2 rfl) rfl (lt_y (y_loadN Try.isAgg26 Try.sizeOf26 rfl) rfl (lt_w (by kernel_rfl) (lt_y (y_move rfl) rfl (lt_y (y_load1 Try.isAgg24 rfl rfl) rfl (lt_y (y_fa fa26_2 rfl) rfl (lt_w (by kernel_rfl) (lt_nil))))))))))) ?_
          refine pl_w1 8 (by kernel_rfl) rfl rfl (pl_fire rfl rfl rfl (by kernel_rfl) ?_)
          refine oj_append  el24 (fun _ => rfl) encIt_one rfl rfl rfl (reads_lit [y] (fun _ => rfl) rfl) (by unfold maxLen; simp only [List.length_append, List.length_cons, List.length_nil, List.drop_zero, List.length_take]; omega) (by simp only [List.length_append, List.length_cons, List.length_nil, List.drop_zero, List.length_take]; omega) rfl (fun A59 c59 => ?_)
          refine oj_nil ?_
          refine ej_pl (lt_y (y_sliceR (xs := ys) j ys.length Try.underlying24 Try.sizeOf26 rfl rfl rfl (by omega) (Nat.le_refl _) hcap) rfl (lt_y (y_move rfl) rfl (lt_y (y_load1 Try.isAgg24 rfl rfl) rfl (lt_y (y_fa fa26_2 rfl) rfl (lt_y (y_loadN Try.isAgg26 Try.sizeOf26 rfl) rfl (lt_y (y_sliceR (xs := ys) 0 j Try.underlying24 Try.sizeOf26 rfl rfl rfl (Nat.zero_le _) (by omega) hcap) rfl (lt_y (y_move rfl) rfl (lt_y (y_load1 Try.isAgg24 rfl rfl) rfl (lt_y (y_fa fa26_2 rfl) rfl (lt_y (y_move rfl) rfl (lt_nil))))))))))) ?_
          refine pl_w1 13 (by kernel_rfl) rfl rfl (pl_fire rfl rfl rfl (by kernel_rfl) ?_)
          refine oj_append  el24 (fun _ => rfl) encIt_one rfl rfl rfl (reads_sub (reads_ow encIt_len) j ys.length hcap) (by unfold maxLen; simp only [List.length_append, List.length_cons, List.length_nil, List.drop_zero, List.length_take, List.length_drop]; omega) (by simp only [List.length_append, List.length_cons, List.length_nil, List.drop_zero, List.length_take, List.length_drop]; omega) rfl (fun A64 c64 => ?_)
          refine oj_nil ?_
          refine ej_pl (lt_w (by kernel_rfl) (lt_y (y_move rfl) rfl (lt_y (y_load1 Try.isAgg24 rfl rfl) rfl (lt_y (y_fa fa26_2 rfl) rfl (lt_y (y_loadN Try.isAgg26 Try.sizeOf26 rfl) rfl (lt_y (y_sliceR (xs := ys) 0 j Try.underlying24 Try.sizeOf26 rfl rfl rfl (Nat.zero_le _) (by omega) hcap) rfl (lt_y (y_move rfl) rfl (lt_y (y_load1 Try.isAgg24 rfl rfl) rfl (lt_y (y_fa fa26_2 rfl) rfl (lt_y (y_move rfl) rfl (lt_nil))))))))))) ?_
          refine pl_y 14 rfl (y_assign rfl) rfl rfl rfl rfl (by kernel_rfl) ?_
          refine pl_end (by kernel_rfl) ?_
          refine ej_th ?_
          have hil : (([] ++ (ys.take j).drop 0) ++ [y]) ++ (ys.take ys.length).drop j = insL (ltV (gramM l)) ys y := by unfold insL; rw [hat]; simp
          rw [hil]
          refine cj_region ?_
          refine oj_step (y_move rfl) rfl rfl rfl ?_
          refine oj_step (y_fa fa26_2 rfl) rfl rfl rfl ?_
          refine oj_store rfl rfl rfl rfl Try.sizeOf24 rfl ?_
          refine oj_nil ?_
          refine ej_blk (ej_th ?_)
          refine cj_regionG (gj_step (y_move rfl) rfl rfl rfl (gj_step (y_add rfl rfl (by omega)) rfl rfl rfl (gj_step (y_assign rfl) rfl rfl rfl (gj_nil ?_))))
          refine ej_addS (itF (fun i => fp i ∨ (n1 ≤ i ∧ i < n2)) (insL (ltV (gramM l)) ys y)) (fun w1 hp => ?_) ?_
          · have h1 := hp.shared (itF fp ys) (by simp)
            have h2 := hp.shared (itF (fun i => n1 ≤ i ∧ i < n2) [y]) (by simp)
            refine ⟨fun z hz => ?_, fun i hi => ?_⟩
            · unfold insL at hz
              rw [List.mem_append, List.mem_cons] at hz
              rcases hz with hz | rfl | hz
              · exact (h1.1 z (List.mem_of_mem_take hz)).fp (fun _ h => .inl h)
              · exact (h2.1 z (List.mem_cons_self ..)).fp (fun _ h => .inr h)
              · exact (h1.1 z (List.mem_of_mem_drop hz)).fp (fun _ h => .inl h)
            · rcases hi with hi | hi
              · exact ⟨h1.2.1 i hi, fun g hg => h1.2.2 g hg i hi⟩
              · exact ⟨h2.2.1 i hi, fun g hg => h2.2.2 g hg i hi⟩
          have hnl : (insL (ltV (gramM l)) ys y).length = k + 1 := by rw [← hil]; simp only [List.length_append, List.length_cons, List.length_nil, List.drop_zero, List.length_take, List.length_drop]; omega
          exact ej_nx (k + 1, A64, c64, insL (ltV (gramM l)) ys y, fun i => fp i ∨ (n1 ≤ i ∧ i < n2)) (by simp only; omega) ⟨by first | omega | (simp only; omega), by rw [lsort_map_snoc (gramM l) ys y _ hys, List.take_add_one, hq, hy]; simp, hnl, fun i hi => by rcases hi with hi | hi; exact hfn i hi; omega⟩ ⟨rfl, rfl, rfl, rfl, rfl, trivial⟩
    · have h20b := h20
      try simp only [sxb] at h20
      refine cj_exit (ej_then_exit (ej_then_exit (ej_blk_hit (ej_th (cj_seq (cj_region ?_))))))
      refine oj_step (y_loadN Try.isAgg26 Try.sizeOf26 rfl) rfl rfl rfl ?_
      refine oj_store rfl rfl rfl rfl Try.sizeOf26 rfl ?_
      refine oj_nil ?_
      refine ej_th (cj_ret ?_)
      have hke : x.parts.take k = x.parts := List.take_of_length_le (by omega)
      rw [hke] at hys
      refine ej_retC1 rfl Try.results54 rfl (y_loadN Try.isAgg26 Try.sizeOf26 rfl) (fun w' hp => ⟨.mk x.cls A14 c14 x.says A1 c1 ys, rfl, hp.below, ?_, ?_⟩)
      · rw [pl_eq, sortT_L, pl_cls, pl_says, pl_parts]
        show IT.mk x.cls x.says (ys.map ItemV.pl) = _
        rw [hys, List.map_map]; rfl
      · have h1 := hp.shared (itF fp ys) (by simp)
        refine .mk (sl_fp (hp.shared (sl fp14 1 enStr A14 x.says) (by simp)).1 (fun i hi => ⟨hfp14 i hi, (hp.shared (sl fp14 1 enStr A14 x.says) (by simp)).2.1 i hi⟩)) (hp.res (A := A1) (fun _ => rfl) (by unfold maxLen; omega)) hx.nm hx.sm (fun p hp2 => ?_)
        exact (h1.1 p hp2).fp (fun i hi => ⟨hfn i hi, h1.2.1 i hi⟩)

theorem k_rsorted (l : List ClassV) (A : Option Addr) (c : Nat) {w0 : World} {x : ItemV} (hx : GoodI w0 x) : ∀ (w : World), Grow w0 w → gramOk l = true → Rd w 4 encCl A l → (∀ c ∈ l, GoodC w c) → OkT (gramM l) x.pl → cntT x.pl ≤ 24 → Calls Try.prog 54 #[.slice A l.length c, evI x] w (fun e w' => ∃ y : ItemV, e = .returned (evI y) ∧ Grow w w' ∧ y.pl = sortT (gramM l) x.pl ∧ GoodF (fun i => w.heap.size ≤ i ∧ i < w'.heap.size) w' y) := by
  induction hx with
  | @mk x hs hp hn hm hr ih =>
    intro w hg hgo hl hgc ho hc
    refine k_rsort1 l A c x w hl hgc hgo ((GoodI.mk hs hp hn hm hr).mono hg) ho hc (fun p hpm w1 hg1 => ?_)
    have hpo : p.pl ∈ x.pl.parts := by rw [pl_parts]; exact List.mem_map.2 ⟨p, hpm, rfl⟩
    have hcp : cntT p.pl ≤ 24 := by have h1 := cntL_mem _ _ hpo; have h2 := cntT_eq x.pl; omega
    exact ih p hpm w1 (grow_trans hg hg1) hgo (hl.mono hg1) (fun q hq => (hgc q hq).mono hg1) (ho.pt _ hpo) hcp

end Go.Proofs.Ytlfbghkcfmcnlaa
namespace Go.Proofs.Ytlfbghkcfmcnlaa
open Go.Sx Go.RowKit

/-! ### The reference's words -/
theorem ltB_V (ms : List Meas) (x y : List Int) : (decide (labN ms x < labN ms y) || ((labN ms x == labN ms y) && decide (cmpL x y < 0))) = decide (ltB ms x y) := by
  unfold ltB
  by_cases h1 : labN ms x < labN ms y <;> by_cases h2 : labN ms x = labN ms y <;> by_cases h3 : cmpL x y < 0 <;> simp [h1, h2, h3]
def aheadB (x y : List Int) : Bool := decide (cmpL x y < 0)
theorem ahead_drop (x y : List Int) (k : Nat) (a b : Int) (ha : x[k]? = some a) (hb : y[k]? = some b) : aheadB (x.drop k) (y.drop k) = if a = b then aheadB (x.drop (k + 1)) (y.drop (k + 1)) else decide (a < b) := by
  unfold aheadB
  rw [cmpL_drop x y k a b ha hb]
  by_cases h : a = b
  · have e : cmpI a b = 0 := by rw [cmpI, if_neg (by omega), if_neg (by omega)]
    rw [if_pos h, if_pos e]
  · rw [if_neg h]
    by_cases h2 : a < b
    · have e : cmpI a b = -1 := by rw [cmpI, if_pos h2]
      rw [e, decide_eq_true h2]; rfl
    · have e : cmpI a b = 1 := by rw [cmpI, if_neg h2, if_pos (by omega)]
      rw [e, decide_eq_false h2]; rfl
theorem ahead_end (x y : List Int) (k : Nat) (h : x.length ≤ k ∨ y.length ≤ k) (hx : k ≤ x.length) (hy : k ≤ y.length) : aheadB (x.drop k) (y.drop k) = decide ((x.length : Int) < y.length) := by
  unfold aheadB
  by_cases h1 : x.length ≤ k
  · rw [cmpL_end2 x y k h1]
    by_cases h2 : k < y.length
    · rw [if_pos h2, decide_eq_true (show (x.length : Int) < y.length by omega)]; rfl
    · rw [if_neg h2, decide_eq_false (show ¬ (x.length : Int) < y.length by omega)]; rfl
  · have h3 : x[k]? = some x[k] := List.getElem?_eq_getElem (by omega)
    rw [cmpL_end x y k _ h3 (by omega), decide_eq_false (show ¬ (x.length : Int) < y.length by omega)]; rfl
/-- do the set's measures find a fake? -/
def fndA (ms : List Meas) (tk : List Int) (f : FakeV) (i : Int) : Bool := fnd (ms.getD i.toNat default) (tk.getD i.toNat default) (f.has.getD i.toNat default)
def rshw (ms : List Meas) (tk : List Int) (f : FakeV) (set : List Int) : Bool := set.any (fndA ms tk f)
theorem fndF_mem : ∀ (ms : List Meas) (rs : List Int) (ss : List Span) (k : Nat) (i : Nat), rs.length = ms.length → ss.length = ms.length → i < ms.length → (hasI (fndF ms rs ss k) ((k + i : Nat) : Int) = fnd (ms.getD i default) (rs.getD i default) (ss.getD i default))
  | [], _, _, _, i, _, _, hi => by simp at hi
  | m :: ms, [], _, _, _, h, _, _ => by simp at h
  | m :: ms, r :: rs, [], _, _, _, h, _ => by simp at h
  | m :: ms, r :: rs, s :: ss, k, i, h1, h2, hi => by
    simp only [List.length_cons] at h1 h2 hi
    rw [fndF]
    cases i with
    | zero =>
      simp only [Nat.add_zero, List.getD_cons_zero]
      have hno : hasI (fndF ms rs ss (k + 1)) (k : Int) = false := by
        unfold hasI
        rw [List.any_eq_false]
        intro q hq
        have := fndF_rng ms rs ss (k + 1) q hq
        simp only [decide_eq_true_eq]; omega
      cases hf : fnd m r s with
      | true => rw [if_pos rfl]; show (decide ((k : Int) = k) || _) = true; simp
      | false => rw [if_neg (by simp)]; exact hno
    | succ i =>
      have ih := fndF_mem ms rs ss (k + 1) i (by omega) (by omega) (by omega)
      simp only [List.getD_cons_succ]
      rw [show k + (i + 1) = k + 1 + i by omega]
      split
      · show (decide ((k : Int) = ((k + 1 + i : Nat) : Int)) || hasI _ _) = _
        rw [decide_eq_false (by omega), Bool.false_or]; exact ih
      · exact ih
/-- the two ways to say that a set finds a fake -/
theorem shw_ref (ms : List Meas) (tk : List Int) (f : FakeV) (set : List Int) (h1 : tk.length = ms.length) (h2 : f.has.length = ms.length) (hs : ∀ i ∈ set, 0 ≤ i ∧ i < ms.length) : rshw ms tk f set = shwF ms tk set f := by
  have key : ∀ i : Int, 0 ≤ i → i < ms.length → hasI (foundL ms tk f) i = fnd (ms.getD i.toNat default) (tk.getD i.toNat default) (f.has.getD i.toNat default) := by
    intro i h3 h4
    have := fndF_mem ms tk f.has 0 i.toNat h1 h2 (by omega)
    rw [show ((0 + i.toNat : Nat) : Int) = i by omega] at this
    exact this
  rw [Bool.eq_iff_iff]
  unfold rshw shwF shw1
  rw [List.any_eq_true, List.any_eq_true]
  constructor
  · rintro ⟨i, hi, h⟩
    have h3 := hs i hi
    unfold fndA at h
    rw [← key i h3.1 h3.2] at h
    unfold hasI at h
    obtain ⟨q, hq, he⟩ := List.any_eq_true.1 h
    have : q = i := of_decide_eq_true he
    subst this
    refine ⟨q, hq, ?_⟩
    unfold hasI
    exact List.any_eq_true.2 ⟨q, hi, decide_eq_true rfl⟩
  · rintro ⟨i, hi, h⟩
    unfold hasI at h
    obtain ⟨q, hq, he⟩ := List.any_eq_true.1 h
    have : q = i := of_decide_eq_true he
    subst this
    have h3 := hs q hq
    refine ⟨q, hq, ?_⟩
    unfold fndA
    rw [← key q h3.1 h3.2]
    unfold hasI
    exact List.any_eq_true.2 ⟨q, hi, decide_eq_true rfl⟩
theorem shwB_ref (ms : List Meas) (tk : List Int) (fs : List FakeV) (set : List Int) (h1 : tk.length = ms.length) (h2 : ∀ f ∈ fs, f.has.length = ms.length) (hs : ∀ i ∈ set, 0 ≤ i ∧ i < ms.length) : fs.all (fun f => rshw ms tk f set) = shwB ms tk fs set := by
  unfold shwB
  induction fs with
  | nil => rfl
  | cons f fs ih =>
    rw [List.all_cons, List.all_cons, ih (fun g hg => h2 g (List.mem_cons_of_mem _ hg)), shw_ref ms tk f set h1 (h2 f (List.mem_cons_self ..)) hs]

theorem memGet {α : Type} [Inhabited α] {l : List α} {i : Nat} (h : i < l.length) : l.getD i default ∈ l := by
  rw [List.getD_eq_getElem?_getD, List.getElem?_eq_getElem h]; exact List.getElem_mem _
theorem shwF_ref {ms : List Meas} {tk : List Int} {f : FakeV} {set : List Int} (h1 : tk.length = ms.length) (h2 : f.has.length = ms.length) (hs : ∀ i ∈ set, 0 ≤ i ∧ i < ms.length) : set.any (fndA ms tk f) = shwF ms tk set f := shw_ref ms tk f set h1 h2 hs
theorem bit_eq (n k : Nat) : (((n / 2 ^ k : Nat) : Int) % 2 == 1) = decide (n / 2 ^ k % 2 = 1) := by
  rw [Bool.eq_iff_iff, beq_iff_eq, decide_eq_true_eq]; omega
end Go.Proofs.Ytlfbghkcfmcnlaa
namespace Go.Proofs.Ytlfbghkcfmcnlaa
open Go.Sx Go.RowKit
set_option maxRecDepth 20000

end Go.Proofs.Ytlfbghkcfmcnlaa
namespace Go.Proofs.Ytlfbghkcfmcnlaa
open Go.Sx Go.RowKit
set_option maxRecDepth 20000
theorem disag_R (m : Meas) (p q : Int) : ((decide (0 ≤ p) && decide (0 ≤ q)) && decide (2 * m.tol < max (p - q) (-(p - q)))) = disag m p q := by
  unfold disag btw
  have : decide (2 * m.tol < max (p - q) (-(p - q))) = !(decide (-2 * m.tol ≤ q - p) && decide (q - p ≤ 2 * m.tol)) := by
    by_cases h1 : -2 * m.tol ≤ q - p <;> by_cases h2 : q - p ≤ 2 * m.tol <;> simp only [h1, h2, decide_true, decide_false, Bool.and_true, Bool.and_false, Bool.true_and, Bool.false_and, Bool.not_true, Bool.not_false, decide_eq_true_eq, decide_eq_false_iff_not] <;> omega
  rw [this]

theorem k_rCheckM (ms : List Meas) (A : Option Addr) (c : Nat) (w : World) (hm : Rd w 2 encMe A ms) : Calls Try.prog 23 #[.slice A ms.length c] w (fun e w' => e = .returned (.int .i64 (measE ms)) ∧ Grow w w') := by
  have hlen := hm.len
  refine enter_pure (args := [.slice A ms.length c]) [sl (fun b => b < w.heap.size) 2 encMe A ms] Try.func23 rfl (by rw [Try.ntmps23]; simp) (fun g hg => by simp at hg; subst hg; exact ⟨hm, fun _ h => h⟩) ?_
  refine cj_seq ?_
  refine cj_regionG (gj_step (y_assign rfl) rfl rfl rfl (gj_nil ?_))
  refine ej_th (cj_seq ?_)
  refine cj_regionG ?_
  refine gj_step (y_move rfl) rfl rfl rfl (gj_step (y_lenA Try.underlying35 rfl) rfl rfl rfl (?_))
  refine gj_step (y_call Try.call34 rfl (fun w hp => k_From _ _ _ w)) rfl rfl rfl ?_
  refine gj_step (y_assign rfl) rfl rfl rfl (?_)
  refine gj_nil ?_
  refine ej_th (cj_seq (cj_seq ?_))
  refine cj_regionG (gj_step (y_assign rfl) rfl rfl rfl (gj_nil ?_))
  refine ej_th (cj_block ?_)
  refine cj_lpic (X := Nat × Bool) [(0, _), (2, _)] (fun ⟨k, ok⟩ => k ≤ ms.length ∧ (ok && (ms.drop k).all meas1) = measOk ms) (fun ⟨k, ok⟩ => [(3, .bool ok), (4, .int .i64 k)]) (fun ⟨k, ok⟩ => ms.length - k) (0, decide (1 ≤ (ms.length : Int)) && decide ((ms.length : Int) ≤ 8)) (⟨Nat.zero_le _, rfl⟩) ⟨rfl, rfl, rfl, rfl, trivial⟩ ?_
  rintro ⟨k, ok⟩ ⟨hk, hsk⟩
  dsimp only [List.cons_append, List.nil_append]
  refine cj_seq (cj_seq ?_)
  refine cj_regionG (gj_step (y_move rfl) rfl rfl rfl (gj_step (y_move rfl) rfl rfl rfl (gj_step (y_lenA Try.underlying35 rfl) rfl rfl rfl (gj_step (y_lss rfl rfl) rfl rfl rfl (gj_nil ?_)))))
  refine ej_th ?_
  refine cj_cond rfl (fun h11 => ?_) (fun h11 => ?_)
  · have h11b := h11
    try simp only [sxb] at h11
    obtain ⟨m, hx⟩ : ∃ m, ms[k]? = some m := ⟨_, List.getElem?_eq_getElem (by omega)⟩
    rw [all_drop meas1 ms k m hx] at hsk
    refine cj_skip (ej_th (cj_seq (cj_block ?_)))
    refine cj_regionG ?_
    refine gj_step (y_move rfl) rfl rfl rfl (gj_step (y_move rfl) rfl rfl rfl (?_))
    refine gj_g 6 15 21 rfl rfl rfl rfl (fun hg15 => gj_yes rfl rfl rfl (y_move rfl) rfl rfl (gj_yes rfl rfl rfl (y_move rfl) rfl rfl (gj_yes rfl rfl rfl (y_ixR (reads_sl) Try.underlying35 Try.sizeOf57 rfl rfl (⟨by omega, by omega⟩)) rfl rfl (gj_yes rfl rfl rfl (y_faE fa57_0 rfl) rfl rfl (gj_yes rfl rfl rfl (y_ld1 (reads_sl) Try.isAgg3 rfl (hx) rfl) rfl rfl (gj_yes rfl rfl rfl (y_call Try.call34 rfl (fun w hp => k_From _ _ _ w)) rfl rfl (gj_nil rfl))))))) ?_
    refine gj_step (y_and rfl rfl rfl) rfl rfl rfl (gj_step (y_move rfl) rfl rfl rfl (?_))
    refine gj_g 6 23 29 rfl rfl rfl rfl (fun hg23 => gj_yes rfl rfl rfl (y_move rfl) rfl rfl (gj_yes rfl rfl rfl (y_move rfl) rfl rfl (gj_yes rfl rfl rfl (y_ixR (reads_sl) Try.underlying35 Try.sizeOf57 rfl rfl (⟨by omega, by omega⟩)) rfl rfl (gj_yes rfl rfl rfl (y_faE fa57_1 rfl) rfl rfl (gj_yes rfl rfl rfl (y_ld1 (reads_sl) Try.isAgg3 rfl (hx) rfl) rfl rfl (gj_yes rfl rfl rfl (y_call Try.call34 rfl (fun w hp => k_From _ _ _ w)) rfl rfl (gj_nil rfl))))))) ?_
    refine gj_step (y_and rfl rfl rfl) rfl rfl rfl (gj_step (y_assign rfl) rfl rfl rfl (?_))
    refine gj_nil ?_
    refine ej_blk (ej_th ?_)
    refine cj_regionG (gj_step (y_move rfl) rfl rfl rfl (gj_step (y_add rfl rfl (by omega)) rfl rfl rfl (gj_step (y_assign rfl) rfl rfl rfl (gj_nil ?_))))
    exact ej_nx (k + 1, ok && (decide (0 ≤ m.tol) && decide (m.tol ≤ 1000)) && (decide (1 ≤ m.lab) && decide (m.lab ≤ 1000))) (by simp only; omega) ⟨by first | omega | (simp only; omega), by rw [← hsk]; simp only [Bool.and_assoc, meas1, btw]⟩ ⟨rfl, rfl, rfl, rfl, trivial⟩
  · have h11b := h11
    try simp only [sxb] at h11
    rw [List.drop_of_length_le (show ms.length ≤ k by omega), List.all_nil, Bool.and_true] at hsk
    refine cj_exit (ej_then_exit (ej_then_exit (ej_blk_hit (ej_th (cj_seq (cj_seq ?_))))))
    refine cj_regionG (gj_step (y_move rfl) rfl rfl rfl (gj_step (y_not rfl) rfl rfl rfl (gj_nil ?_)))
    refine ej_th ?_
    refine cj_cond rfl (fun h32 => ?_) (fun h32 => ?_)
    · have h32b := h32
      try simp only [sxb] at h32
      refine cj_seq ?_
      refine cj_regionG (gj_step (y_assign rfl) rfl rfl rfl (gj_nil ?_))
      refine ej_th (cj_ret (ej_then_ret ?_))
      refine ej_ret1 rfl Try.results23 rfl (fun w' hp => ⟨?_, hp.below⟩)
      rw [measE, ← hsk, not_t h32b]; rfl
    · have h32b := h32
      try simp only [sxb] at h32
      refine cj_skip (ej_th (cj_seq ?_))
      refine cj_regionG (gj_step (y_assign rfl) rfl rfl rfl (gj_nil ?_))
      refine ej_th (cj_ret ?_)
      refine ej_ret1 rfl Try.results23 rfl (fun w' hp => ⟨?_, hp.below⟩)
      rw [measE, ← hsk, not_f h32b]; rfl

theorem k_rreadings (l : List Int) (A : Option Addr) (c n : Nat) (w : World) (hl : Rd w 1 enInt A l) : Calls Try.prog 61 #[.slice A l.length c, .int .i64 n] w (fun e w' => e = .returned (.bool (rdOk n l)) ∧ Grow w w') := by
  have hlen := hl.len
  refine enter_pure (args := [.slice A l.length c, .int .i64 n]) [sl (fun b => b < w.heap.size) 1 enInt A l] Try.func61 rfl (by rw [Try.ntmps61]; simp) (fun g hg => by simp at hg; subst hg; exact ⟨hl, fun _ h => h⟩) ?_
  refine cj_seq ?_
  refine cj_regionG (gj_step (y_assign rfl) rfl rfl rfl (gj_nil ?_))
  refine ej_th (cj_seq (cj_seq ?_))
  refine cj_regionG (gj_step (y_assign rfl) rfl rfl rfl (gj_nil ?_))
  refine ej_th (cj_block ?_)
  refine cj_lpic (X := Nat) [(0, _), (1, _)] (fun k => k ≤ l.length ∧ (l.drop k).all rd1 = l.all rd1) (fun k => [(5, .int .i64 k)]) (fun k => l.length - k) 0 (⟨Nat.zero_le _, rfl⟩) ⟨rfl, rfl, rfl, trivial⟩ ?_
  rintro k ⟨hk, hsk⟩
  dsimp only [List.cons_append, List.nil_append]
  refine cj_seq (cj_seq ?_)
  refine cj_regionG (gj_step (y_move rfl) rfl rfl rfl (gj_step (y_move rfl) rfl rfl rfl (gj_step (y_lenA Try.underlying37 rfl) rfl rfl rfl (gj_step (y_lss rfl rfl) rfl rfl rfl (gj_nil ?_)))))
  refine ej_th ?_
  refine cj_cond rfl (fun h9 => ?_) (fun h9 => ?_)
  · have h9b := h9
    try simp only [sxb] at h9
    obtain ⟨x, hx⟩ : ∃ x, l[k]? = some x := ⟨_, List.getElem?_eq_getElem (by omega)⟩
    rw [all_drop rd1 l k x hx] at hsk
    refine cj_skip (ej_th (cj_seq (cj_block (cj_seq ?_))))
    refine cj_regionG ?_
    refine gj_step (y_move rfl) rfl rfl rfl (gj_step (y_move rfl) rfl rfl rfl (gj_step (y_ixR (reads_sl) Try.underlying37 Try.sizeOf3 rfl rfl (⟨by omega, by omega⟩)) rfl rfl rfl (gj_step (y_ld0 (reads_sl) Try.isAgg3 rfl (hx) rfl) rfl rfl rfl (?_))))
    refine gj_step (y_call Try.call34 rfl (fun w hp => k_From _ _ _ w)) rfl rfl rfl ?_
    refine gj_step (y_not rfl) rfl rfl rfl (?_)
    refine gj_nil ?_
    refine ej_th ?_
    refine cj_cond rfl (fun h17 => ?_) (fun h17 => ?_)
    · have h17b := h17
      try simp only [sxb] at h17
      refine cj_seq ?_
      refine cj_regionG (gj_step (y_assign rfl) rfl rfl rfl (gj_nil ?_))
      refine ej_th (cj_ret (ej_blk_ret (ej_then_ret (ej_then_ret (ej_blk_ret (ej_then_ret ?_))))))
      refine ej_ret1 rfl Try.results61 rfl (fun w' hp => ⟨?_, hp.below⟩)
      rw [rdOk, ← hsk, show rd1 x = false from not_t h17b]; simp
    · have h17b := h17
      try simp only [sxb] at h17
      refine cj_skip (ej_blk (ej_th ?_))
      refine cj_regionG (gj_step (y_move rfl) rfl rfl rfl (gj_step (y_add rfl rfl (by omega)) rfl rfl rfl (gj_step (y_assign rfl) rfl rfl rfl (gj_nil ?_))))
      exact ej_nx (k + 1) (by omega) ⟨by omega, by rw [← hsk, show rd1 x = true from not_f h17b, Bool.true_and]⟩ ⟨rfl, rfl, rfl, trivial⟩
  · have h9b := h9
    try simp only [sxb] at h9
    refine cj_exit (ej_then_exit (ej_then_exit (ej_blk_hit (ej_th (cj_seq ?_)))))
    refine cj_regionG (gj_step (y_move rfl) rfl rfl rfl (gj_step (y_lenA Try.underlying37 rfl) rfl rfl rfl (gj_step (y_move rfl) rfl rfl rfl (gj_step (y_eql rfl rfl) rfl rfl rfl (gj_step (y_assign rfl) rfl rfl rfl (gj_nil ?_))))))
    refine ej_th (cj_ret ?_)
    refine ej_ret1 rfl Try.results61 rfl (fun w' hp => ⟨?_, hp.below⟩)
    rw [rdOk, ← hsk, List.drop_of_length_le (by omega)]; simp

theorem k_rfakes (fs : List FakeV) (Af : Option Addr) (cf : Nat) (n : Nat) (w : World) (hf : Rd w 1 encFk Af fs) (hgf : ∀ f ∈ fs, GoodK w f) : Calls Try.prog 104 #[.slice Af fs.length cf, .int .i64 n] w (fun e w' => e = .returned (.bool (fakesOk n fs)) ∧ Grow w w') := by
  have hlf := hf.len
  refine enter_pure (args := [.slice Af fs.length cf, .int .i64 n]) [sl (fun b => b < w.heap.size) 1 encFk Af fs] Try.func104 rfl (by rw [Try.ntmps104]; simp) (fun g hg => by simp at hg; subst hg; exact ⟨hf, fun _ h => h⟩) ?_
  refine cj_seq ?_
  refine cj_regionG (gj_step (y_assign rfl) rfl rfl rfl (gj_nil ?_))
  refine ej_th (cj_seq (cj_seq ?_))
  refine cj_regionG (gj_step (y_assign rfl) rfl rfl rfl (gj_nil ?_))
  refine ej_th (cj_block ?_)
  refine cj_lpic (X := Nat) [(0, _), (1, _)] (fun k => k ≤ fs.length ∧ (fs.drop k).all (fake1 n) = fs.all (fake1 n)) (fun k => [(5, .int .i64 k)]) (fun k => fs.length - k) 0 (⟨Nat.zero_le _, rfl⟩) ⟨rfl, rfl, rfl, trivial⟩ ?_
  rintro k ⟨hk, hsk⟩
  dsimp only [List.cons_append, List.nil_append]
  refine cj_seq (cj_seq ?_)
  refine cj_regionG (gj_step (y_move rfl) rfl rfl rfl (gj_step (y_move rfl) rfl rfl rfl (gj_step (y_lenA Try.underlying46 rfl) rfl rfl rfl (gj_step (y_lss rfl rfl) rfl rfl rfl (gj_nil ?_)))))
  refine ej_th ?_
  refine cj_cond rfl (fun h11 => ?_) (fun h11 => ?_)
  · have h11b := h11
    try simp only [sxb] at h11
    obtain ⟨f, hx⟩ : ∃ f, fs[k]? = some f := ⟨_, List.getElem?_eq_getElem (by omega)⟩
    rw [all_drop (fake1 n) fs k f hx] at hsk
    have hgr := hgf f (List.mem_of_getElem? hx)
    have hl2 := hgr.len
    refine cj_rd hgr (fun _ h => h) ?_
    refine cj_skip (ej_th (cj_seq (cj_block (cj_seq (cj_seq ?_)))))
    refine cj_regionG (gj_step (y_assign rfl) rfl rfl rfl (gj_nil ?_))
    refine ej_th (cj_block ?_)
    refine cj_lpic (X := Nat) [(5, _), (0, _), (1, _)] (fun j => j ≤ f.has.length ∧ (f.has.drop j).all goodSp = f.has.all goodSp) (fun j => [(6, .int .i64 j)]) (fun j => f.has.length - j) 0 (⟨Nat.zero_le _, rfl⟩) ⟨rfl, rfl, rfl, rfl, trivial⟩ ?_
    rintro j ⟨hj, hsj⟩
    dsimp only [List.cons_append, List.nil_append]
    refine cj_seq (cj_seq ?_)
    refine cj_regionG (gj_step (y_move rfl) rfl rfl rfl (gj_step (y_move rfl) rfl rfl rfl (gj_step (y_move rfl) rfl rfl rfl (gj_step (y_ixR (reads_sl) Try.underlying46 Try.sizeOf80 rfl rfl (⟨by omega, by omega⟩)) rfl rfl rfl (gj_step (y_faE fa80_0 rfl) rfl rfl rfl (gj_step (y_ld1 (reads_sl) Try.isAgg39 rfl (hx) rfl) rfl rfl rfl (gj_step (y_lenA Try.underlying39 rfl) rfl rfl rfl (gj_step (y_lss rfl rfl) rfl rfl rfl (gj_nil ?_)))))))))
    refine ej_th ?_
    refine cj_cond rfl (fun h21 => ?_) (fun h21 => ?_)
    · have h21b := h21
      try simp only [sxb] at h21
      obtain ⟨s, hy⟩ : ∃ s, f.has[j]? = some s := ⟨_, List.getElem?_eq_getElem (by omega)⟩
      rw [all_drop goodSp f.has j s hy] at hsj
      refine cj_skip (ej_th (cj_seq (cj_block (cj_seq (cj_region ?_)))))
      refine oj_step (y_move rfl) rfl rfl rfl ?_
      refine oj_step (y_move rfl) rfl rfl rfl ?_
      refine oj_step (y_ixR (reads_sl) Try.underlying46 Try.sizeOf80 rfl rfl (⟨by omega, by omega⟩)) rfl rfl rfl ?_
      refine oj_step (y_faE fa80_0 rfl) rfl rfl rfl ?_
      refine oj_step (y_ld1 (reads_sl) Try.isAgg39 rfl (hx) rfl) rfl rfl rfl ?_
      refine oj_step (y_move rfl) rfl rfl rfl ?_
      refine oj_step (y_ixR (reads_sl) Try.underlying39 Try.sizeOf62 rfl rfl (⟨by omega, by omega⟩)) rfl rfl rfl ?_
      refine oj_step (y_ldW (reads_sl) Try.isAgg62 Try.sizeOf62 rfl (hy) (fun _ => rfl)) rfl rfl rfl ?_
      refine oj_alloc Try.zeroValue62 rfl rfl (fun b7 => ?_)
      refine oj_store rfl rfl rfl rfl Try.sizeOf62 rfl ?_
      refine oj_nil ?_
      refine ej_th (cj_seq ?_)
      refine cj_regionG (gj_step (y_fa0 fa62_0 rfl) rfl rfl rfl (gj_step (y_load1 Try.isAgg3 rfl rfl) rfl rfl rfl (gj_step (y_lss rfl rfl) rfl rfl rfl (gj_step (y_move rfl) rfl rfl rfl (gj_g 5 35 40 rfl rfl rfl rfl (fun hg35 => gj_yes rfl rfl rfl (y_fa0 fa62_0 rfl) rfl rfl (gj_yes rfl rfl rfl (y_load1 Try.isAgg3 rfl rfl) rfl rfl (gj_yes rfl rfl rfl (y_fa fa62_1 rfl) rfl rfl (gj_yes rfl rfl rfl (y_load1 Try.isAgg3 rfl rfl) rfl rfl (gj_yes rfl rfl rfl (y_gtr rfl rfl) rfl rfl (gj_nil rfl)))))) (gj_step (y_or rfl rfl rfl) rfl rfl rfl (gj_step (y_move rfl) rfl rfl rfl (gj_g 3 42 45 rfl rfl rfl rfl (fun hg42 => gj_yes rfl rfl rfl (y_fa fa62_1 rfl) rfl rfl (gj_yes rfl rfl rfl (y_load1 Try.isAgg3 rfl rfl) rfl rfl (gj_yes rfl rfl rfl (y_gtr rfl rfl) rfl rfl (gj_nil rfl)))) (gj_step (y_or rfl rfl rfl) rfl rfl rfl (gj_nil ?_))))))))))
      refine ej_th ?_
      refine cj_cond rfl (fun h46 => ?_) (fun h46 => ?_)
      · have h46b := h46
        try simp only [sxb] at h46
        refine cj_seq ?_
        refine cj_regionG (gj_step (y_assign rfl) rfl rfl rfl (gj_nil ?_))
        refine ej_th (cj_ret (ej_blk_ret (ej_then_ret (ej_then_ret (ej_blk_ret (ej_then_ret (ej_blk_ret (ej_then_ret (ej_then_ret (ej_blk_ret (ej_then_ret ?_)))))))))))
        refine ej_ret1 rfl Try.results104 rfl (fun w' hp => ⟨?_, hp.below⟩)
        rw [fakesOk, ← hsk, fake1, ← hsj, show goodSp s = false by unfold goodSp badSp; rw [h46b]; rfl]; simp
      · have h46b := h46
        try simp only [sxb] at h46
        refine cj_skip (ej_blk (ej_th ?_))
        refine cj_regionG (gj_step (y_move rfl) rfl rfl rfl (gj_step (y_add rfl rfl (by omega)) rfl rfl rfl (gj_step (y_assign rfl) rfl rfl rfl (gj_nil ?_))))
        exact ej_nx (j + 1) (by omega) ⟨by omega, by rw [← hsj, show goodSp s = true by unfold goodSp badSp; rw [h46b]; rfl, Bool.true_and]⟩ ⟨rfl, rfl, rfl, rfl, trivial⟩
    · have h21b := h21
      try simp only [sxb] at h21
      rw [List.drop_of_length_le (show f.has.length ≤ j by omega)] at hsj
      refine cj_exit (ej_then_exit (ej_then_exit (ej_blk_hit (ej_th (cj_seq ?_)))))
      refine cj_regionG (gj_step (y_move rfl) rfl rfl rfl (gj_step (y_move rfl) rfl rfl rfl (gj_step (y_ixR (reads_sl) Try.underlying46 Try.sizeOf80 rfl rfl (⟨by omega, by omega⟩)) rfl rfl rfl (gj_step (y_faE fa80_0 rfl) rfl rfl rfl (gj_step (y_ld1 (reads_sl) Try.isAgg39 rfl (hx) rfl) rfl rfl rfl (gj_step (y_lenA Try.underlying39 rfl) rfl rfl rfl (gj_step (y_move rfl) rfl rfl rfl (gj_step (y_neq rfl rfl) rfl rfl rfl (gj_nil ?_)))))))))
      refine ej_th ?_
      refine cj_cond rfl (fun h54 => ?_) (fun h54 => ?_)
      · have h54b := h54
        try simp only [sxb] at h54
        have hbad : fake1 n f = false := by unfold fake1; rw [show ((f.has.length : Int) == (n : Int)) = false by simpa [bne] using h54b]; rfl
        refine cj_seq ?_
        refine cj_regionG (gj_step (y_assign rfl) rfl rfl rfl (gj_nil ?_))
        refine ej_th (cj_ret (ej_blk_ret (ej_then_ret (ej_then_ret (ej_blk_ret (ej_then_ret ?_))))))
        refine ej_ret1 rfl Try.results104 rfl (fun w' hp => ⟨?_, hp.below⟩)
        rw [fakesOk, ← hsk, hbad]; simp
      · have h54b := h54
        try simp only [sxb] at h54
        have hfo : fake1 n f = true := by unfold fake1; rw [show ((f.has.length : Int) == (n : Int)) = true by simpa [bne] using h54b, ← hsj]; rfl
        refine cj_skip (ej_blk (ej_th ?_))
        refine cj_regionG (gj_step (y_move rfl) rfl rfl rfl (gj_step (y_add rfl rfl (by omega)) rfl rfl rfl (gj_step (y_assign rfl) rfl rfl rfl (gj_nil ?_))))
        exact ej_nx (k + 1) (by omega) ⟨by omega, by rw [← hsk, hfo, Bool.true_and]⟩ ⟨rfl, rfl, rfl, trivial⟩
  · have h11b := h11
    try simp only [sxb] at h11
    refine cj_exit (ej_then_exit (ej_then_exit (ej_blk_hit (ej_th (cj_seq ?_)))))
    refine cj_regionG (gj_step (y_move rfl) rfl rfl rfl (gj_step (y_lenA Try.underlying46 rfl) rfl rfl rfl (gj_step (y_leq rfl rfl) rfl rfl rfl (gj_step (y_assign rfl) rfl rfl rfl (gj_nil ?_)))))
    refine ej_th (cj_ret ?_)
    refine ej_ret1 rfl Try.results104 rfl (fun w' hp => ⟨?_, hp.below⟩)
    rw [fakesOk, ← hsk, List.drop_of_length_le (by omega)]; simp

theorem k_rasked (ms : List Meas) (A : Option Addr) (c : Nat) (tk : List Int) (At : Option Addr) (ct : Nat) (fs : List FakeV) (Af : Option Addr) (cf : Nat) (w : World) (hm : Rd w 2 encMe A ms) (ht : Rd w 1 enInt At tk) (hf : Rd w 1 encFk Af fs) (hgf : ∀ f ∈ fs, GoodK w f) : Calls Try.prog 69 #[.slice A ms.length c, .slice At tk.length ct, .slice Af fs.length cf] w (fun e w' => e = .returned (.int .i64 (skillE ms tk fs)) ∧ Grow w w') := by
  refine enter_pure (args := [.slice A ms.length c, .slice At tk.length ct, .slice Af fs.length cf]) [sl (fun b => b < w.heap.size) 2 encMe A ms, sl (fun b => b < w.heap.size) 1 enInt At tk, sl (fun b => b < w.heap.size) 1 encFk Af fs] Try.func69 rfl (by rw [Try.ntmps69]; simp) (fun g hg => by simp at hg; rcases hg with rfl | rfl | rfl; exact ⟨hm, fun _ h => h⟩; exact ⟨ht, fun _ h => h⟩; exact ⟨hf, fun _ h => h⟩) ?_
  refine cj_seq ?_
  refine cj_regionG (gj_step (y_assign rfl) rfl rfl rfl (gj_nil ?_))
  refine ej_th (cj_seq (cj_seq ?_))
  refine cj_regionG ?_
  refine gj_step (y_move rfl) rfl rfl rfl (?_)
  refine gj_step (y_call Try.call23 rfl (fun w hp => k_rCheckM _ _ _ w hp.rd)) rfl rfl rfl ?_
  refine gj_step (y_assign rfl) rfl rfl rfl (?_)
  refine gj_nil ?_
  refine ej_th (cj_seq ?_)
  refine cj_regionG (gj_step (y_move rfl) rfl rfl rfl (gj_step (y_neq rfl rfl) rfl rfl rfl (gj_nil ?_)))
  refine ej_th ?_
  refine cj_cond rfl (fun h11 => ?_) (fun h11 => ?_)
  · have h11b := h11
    try simp only [sxb] at h11
    have hno := meas_no h11b
    refine cj_seq ?_
    refine cj_regionG (gj_step (y_move rfl) rfl rfl rfl (gj_step (y_assign rfl) rfl rfl rfl (gj_nil ?_)))
    refine ej_th (cj_ret (ej_then_ret ?_))
    refine ej_ret1 rfl Try.results69 rfl (fun w' hp => ⟨?_, hp.below⟩)
    rw [skillE, measE, hno]; rfl
  · have h11b := h11
    try simp only [sxb] at h11
    have hmo := meas_0 h11b
    refine cj_skip (ej_th (cj_seq (cj_seq ?_)))
    refine cj_regionG ?_
    refine gj_step (y_move rfl) rfl rfl rfl (gj_step (y_move rfl) rfl rfl rfl (gj_step (y_lenA Try.underlying35 rfl) rfl rfl rfl (?_)))
    refine gj_step (y_call Try.call61 rfl (fun w hp => k_rreadings tk At ct ms.length w hp.rd)) rfl rfl rfl ?_
    refine gj_step (y_not rfl) rfl rfl rfl (?_)
    refine gj_nil ?_
    refine ej_th ?_
    refine cj_cond rfl (fun h17 => ?_) (fun h17 => ?_)
    · have h17b := h17
      try simp only [sxb] at h17
      refine cj_seq ?_
      refine cj_regionG (gj_step (y_assign rfl) rfl rfl rfl (gj_nil ?_))
      refine ej_th (cj_ret (ej_then_ret ?_))
      refine ej_ret1 rfl Try.results69 rfl (fun w' hp => ⟨?_, hp.below⟩)
      rw [skillE, hmo, if_pos rfl, not_t h17b]; rfl
    · have h17b := h17
      try simp only [sxb] at h17
      refine cj_skip (ej_th (cj_seq (cj_seq ?_)))
      refine cj_regionG ?_
      refine gj_step (y_move rfl) rfl rfl rfl (gj_step (y_move rfl) rfl rfl rfl (gj_step (y_lenA Try.underlying35 rfl) rfl rfl rfl (?_)))
      refine gj_step (y_call Try.call104 rfl (fun w hp => k_rfakes fs Af cf ms.length w hp.rd (fun f h => (hgf f h).mono hp.below))) rfl rfl rfl ?_
      refine gj_step (y_not rfl) rfl rfl rfl (?_)
      refine gj_nil ?_
      refine ej_th ?_
      refine cj_cond rfl (fun h22 => ?_) (fun h22 => ?_)
      · have h22b := h22
        try simp only [sxb] at h22
        refine cj_seq ?_
        refine cj_regionG (gj_step (y_assign rfl) rfl rfl rfl (gj_nil ?_))
        refine ej_th (cj_ret (ej_then_ret ?_))
        refine ej_ret1 rfl Try.results69 rfl (fun w' hp => ⟨?_, hp.below⟩)
        rw [skillE, hmo, if_pos rfl, not_f h17b, if_pos rfl, not_t h22b]; rfl
      · have h22b := h22
        try simp only [sxb] at h22
        refine cj_skip (ej_th (cj_seq ?_))
        refine cj_regionG (gj_step (y_assign rfl) rfl rfl rfl (gj_nil ?_))
        refine ej_th (cj_ret ?_)
        refine ej_ret1 rfl Try.results69 rfl (fun w' hp => ⟨?_, hp.below⟩)
        rw [skillE, hmo, if_pos rfl, not_f h17b, if_pos rfl, not_f h22b]; rfl

theorem k_rfinds (m : Meas) (r : Int) (s : Span) (w : World) (hb : (-1 ≤ r ∧ r ≤ 100000) ∧ (0 ≤ m.tol ∧ m.tol ≤ 1000)) : Calls Try.prog 78 #[evMe m, .int .i64 r, evSp s] w (fun e w' => e = .returned (.bool (fnd m r s)) ∧ Grow w w') := by
  refine enter_pure (args := [evMe m, .int .i64 r, evSp s]) [] Try.func78 rfl (by rw [Try.ntmps78]; simp) (by simp) ?_
  refine cj_seq (cj_region ?_)
  refine oj_box rfl rfl rfl (fun b3 => ?_)
  refine oj_box rfl rfl rfl (fun b5 => ?_)
  refine oj_step (y_assign rfl) rfl rfl rfl ?_
  refine oj_nil ?_
  refine ej_th (cj_seq ?_)
  refine cj_regionG (gj_step (y_move rfl) rfl rfl rfl (gj_step (y_geq rfl rfl) rfl rfl rfl (gj_step (y_move rfl) rfl rfl rfl (gj_g 18 9 27 rfl rfl rfl rfl (fun hg9 => gj_yes rfl rfl rfl (y_fa0 fa62_0 rfl) rfl rfl (gj_yes rfl rfl rfl (y_load1 Try.isAgg3 rfl rfl) rfl rfl (gj_yes rfl rfl rfl (y_move rfl) rfl rfl (gj_yes rfl rfl rfl (y_fa0 fa57_0 rfl) rfl rfl (gj_yes rfl rfl rfl (y_load1 Try.isAgg3 rfl rfl) rfl rfl (gj_yes rfl rfl rfl (y_mul rfl rfl (by omega)) rfl rfl (gj_yes rfl rfl rfl (y_add rfl rfl (by omega)) rfl rfl (gj_yes rfl rfl rfl (y_gtr rfl rfl) rfl rfl (gj_yes rfl rfl rfl (y_move rfl) rfl rfl (gj_g 8 18 26 rfl rfl rfl rfl (fun hg18 => gj_yes rfl rfl rfl (y_fa fa62_1 rfl) rfl rfl (gj_yes rfl rfl rfl (y_load1 Try.isAgg3 rfl rfl) rfl rfl (gj_yes rfl rfl rfl (y_move rfl) rfl rfl (gj_yes rfl rfl rfl (y_fa0 fa57_0 rfl) rfl rfl (gj_yes rfl rfl rfl (y_load1 Try.isAgg3 rfl rfl) rfl rfl (gj_yes rfl rfl rfl (y_mul rfl rfl (by omega)) rfl rfl (gj_yes rfl rfl rfl (y_sub rfl rfl (by omega)) rfl rfl (gj_yes rfl rfl rfl (y_lss rfl rfl) rfl rfl (gj_nil rfl))))))))) (gj_yes rfl rfl rfl (y_or rfl rfl rfl) rfl rfl (gj_nil rfl)))))))))))) (gj_step (y_and rfl rfl rfl) rfl rfl rfl (gj_step (y_assign rfl) rfl rfl rfl (gj_nil ?_)))))))
  refine ej_th (cj_ret ?_)
  exact ej_ret1 rfl Try.results78 rfl (fun w' hp => ⟨rfl, hp.below⟩)

theorem k_Size (n : Int) (w : World) (hn : -9223372036854775807 ≤ n ∧ n ≤ 9223372036854775807) : Calls Try.prog 63 #[.int .i64 n] w (fun e w' => e = .returned (.int .i64 (max n (-n))) ∧ Grow w w') := by
  refine enter_pure (args := [.int .i64 n]) [] Try.func63 rfl (by rw [Try.ntmps63]; simp) (by simp) ?_
  refine cj_seq ?_
  refine cj_regionG (gj_step (y_assign rfl) rfl rfl rfl (gj_nil ?_))
  refine ej_th (cj_seq ?_)
  refine cj_regionG (gj_step (y_move rfl) rfl rfl rfl (gj_step (y_move rfl) rfl rfl rfl (gj_step (y_neg rfl (by omega)) rfl rfl rfl (gj_step (y_max rfl rfl) rfl rfl rfl (gj_step (y_assign rfl) rfl rfl rfl (gj_nil ?_))))))
  refine ej_th (cj_ret ?_)
  exact ej_ret1 rfl Try.results63 rfl (fun w' hp => ⟨rfl, hp.below⟩)

theorem k_rAgree (ms : List Meas) (A : Option Addr) (c : Nat) (a b : List Int) (Aa Ab : Option Addr) (ca cb : Nat) (w : World) (hm : Rd w 2 encMe A ms) (ha : Rd w 1 enInt Aa a) (hb : Rd w 1 enInt Ab b) : Calls Try.prog 25 #[.slice A ms.length c, .slice Aa a.length ca, .slice Ab b.length cb] w (fun e w' => e = .returned (.tuple #[.bool (AgrB ms a b), .int .i64 (AgrE ms a b)]) ∧ Grow w w') := by
  have hlm := hm.len
  refine enter_pure (args := [.slice A ms.length c, .slice Aa a.length ca, .slice Ab b.length cb]) [sl (fun b => b < w.heap.size) 2 encMe A ms, sl (fun b => b < w.heap.size) 1 enInt Aa a, sl (fun b => b < w.heap.size) 1 enInt Ab b] Try.func25 rfl (by rw [Try.ntmps25]; simp) (fun g hg => by simp at hg; rcases hg with rfl | rfl | rfl; exact ⟨hm, fun _ h => h⟩; exact ⟨ha, fun _ h => h⟩; exact ⟨hb, fun _ h => h⟩) ?_
  refine cj_seq ?_
  refine cj_regionG (gj_step (y_assign rfl) rfl rfl rfl (gj_step (y_assign rfl) rfl rfl rfl (gj_nil ?_)))
  refine ej_th (cj_seq (cj_seq ?_))
  refine cj_regionG ?_
  refine gj_step (y_move rfl) rfl rfl rfl (?_)
  refine gj_step (y_call Try.call23 rfl (fun w hp => k_rCheckM _ _ _ w hp.rd)) rfl rfl rfl ?_
  refine gj_step (y_assign rfl) rfl rfl rfl (?_)
  refine gj_nil ?_
  refine ej_th (cj_seq ?_)
  refine cj_regionG (gj_step (y_move rfl) rfl rfl rfl (gj_step (y_neq rfl rfl) rfl rfl rfl (gj_nil ?_)))
  refine ej_th ?_
  refine cj_cond rfl (fun h13 => ?_) (fun h13 => ?_)
  · have h13b := h13
    try simp only [sxb] at h13
    have hno := meas_no h13b
    refine cj_seq ?_
    refine cj_regionG (gj_step (y_move rfl) rfl rfl rfl (gj_step (y_assign rfl) rfl rfl rfl (gj_step (y_assign rfl) rfl rfl rfl (gj_nil ?_))))
    refine ej_th (cj_ret (ej_then_ret ?_))
    obtain ⟨e1, e2⟩ := agr_no1 (a := a) (b := b) hno
    exact ej_ret2 rfl Try.results25 rfl rfl (fun w' hp => ⟨by rw [e2, e1, measE, hno]; rfl, hp.below⟩)
  · have h13b := h13
    try simp only [sxb] at h13
    have hmo := meas_0 h13b
    obtain ⟨hml, hmb⟩ := meas_bd hmo
    refine cj_skip (ej_th (cj_seq (cj_seq ?_)))
    refine cj_regionG ?_
    refine gj_step (y_move rfl) rfl rfl rfl (gj_step (y_move rfl) rfl rfl rfl (gj_step (y_lenA Try.underlying35 rfl) rfl rfl rfl (?_)))
    refine gj_step (y_call Try.call61 rfl (fun w hp => k_rreadings a Aa ca ms.length w hp.rd)) rfl rfl rfl ?_
    refine gj_step (y_not rfl) rfl rfl rfl (gj_step (y_move rfl) rfl rfl rfl (?_))
    refine gj_g 5 20 25 rfl rfl rfl rfl (fun hg20 => gj_yes rfl rfl rfl (y_move rfl) rfl rfl (gj_yes rfl rfl rfl (y_move rfl) rfl rfl (gj_yes rfl rfl rfl (y_lenA Try.underlying35 rfl) rfl rfl (gj_yes rfl rfl rfl (y_call Try.call61 rfl (fun w hp => k_rreadings b Ab cb ms.length w hp.rd)) rfl rfl (gj_yes rfl rfl rfl (y_not rfl) rfl rfl (gj_nil rfl)))))) ?_
    refine gj_step (y_or rfl rfl rfl) rfl rfl rfl (?_)
    refine gj_nil ?_
    refine ej_th ?_
    refine cj_cond rfl (fun h26 => ?_) (fun h26 => ?_)
    · have h26b := h26
      try simp only [sxb] at h26
      rw [← Bool.not_and] at h26b
      have hro := not_t h26b
      refine cj_seq ?_
      refine cj_regionG (gj_step (y_assign rfl) rfl rfl rfl (gj_step (y_assign rfl) rfl rfl rfl (gj_nil ?_)))
      refine ej_th (cj_ret (ej_then_ret ?_))
      obtain ⟨e1, e2⟩ := agr_no2 hmo hro
      exact ej_ret2 rfl Try.results25 rfl rfl (fun w' hp => ⟨by rw [e2, e1], hp.below⟩)
    · have h26b := h26
      try simp only [sxb] at h26
      rw [← Bool.not_and] at h26b
      have hro := not_f h26b
      have hrp := Bool.and_eq_true_iff.1 hro
      have hab := rdOk_bd hrp.1
      have hbb := rdOk_bd hrp.2
      refine cj_skip (ej_th (cj_seq (cj_seq ?_)))
      refine cj_regionG (gj_step (y_assign rfl) rfl rfl rfl (gj_nil ?_))
      refine ej_th (cj_block ?_)
      refine cj_lpic (X := Nat) [(0, _), (1, _), (2, _)] (fun k => k ≤ ms.length ∧ agrF (ms.drop k) (a.drop k) (b.drop k) = agrF ms a b) (fun k => [(9, .int .i64 k)]) (fun k => ms.length - k) 0 (⟨Nat.zero_le _, rfl⟩) ⟨rfl, rfl, rfl, rfl, trivial⟩ ?_
      rintro k ⟨hk, hsk⟩
      dsimp only [List.cons_append, List.nil_append]
      refine cj_seq (cj_seq ?_)
      refine cj_regionG (gj_step (y_move rfl) rfl rfl rfl (gj_step (y_move rfl) rfl rfl rfl (gj_step (y_lenA Try.underlying35 rfl) rfl rfl rfl (gj_step (y_lss rfl rfl) rfl rfl rfl (gj_nil ?_)))))
      refine ej_th ?_
      refine cj_cond rfl (fun h30 => ?_) (fun h30 => ?_)
      · have h30b := h30
        try simp only [sxb] at h30
        obtain ⟨m, hx⟩ : ∃ m, ms[k]? = some m := ⟨_, List.getElem?_eq_getElem (by omega)⟩
        obtain ⟨p, hy⟩ : ∃ p, a[k]? = some p := ⟨_, List.getElem?_eq_getElem (by omega)⟩
        obtain ⟨q, hz⟩ : ∃ q, b[k]? = some q := ⟨_, List.getElem?_eq_getElem (by omega)⟩
        rw [agrF_drop ms a b k m p q hx hy hz] at hsk
        have hmt := hmb m (List.mem_of_getElem? hx)
        have hpb := hab.2 p (List.mem_of_getElem? hy)
        have hqb := hbb.2 q (List.mem_of_getElem? hz)
        have hdV := disag_R m p q
        refine cj_skip (ej_th (cj_seq (cj_block (cj_seq ?_))))
        refine cj_draw (by kernel_rfl) (by kernel_rfl) ?_
        refine gj_step (y_move rfl) rfl rfl rfl (gj_step (y_move rfl) rfl rfl rfl (gj_step (y_ixR (reads_sl) Try.underlying37 Try.sizeOf3 rfl rfl (⟨by omega, by omega⟩)) rfl rfl rfl (gj_step (y_ld0 (reads_sl) Try.isAgg3 rfl (hy) rfl) rfl rfl rfl (gj_step (y_geq rfl rfl) rfl rfl rfl (gj_step (y_move rfl) rfl rfl rfl (?_))))))
        refine gj_g 5 38 43 rfl rfl rfl rfl (fun hg38 => gj_yes rfl rfl rfl (y_move rfl) rfl rfl (gj_yes rfl rfl rfl (y_move rfl) rfl rfl (gj_yes rfl rfl rfl (y_ixR (reads_sl) Try.underlying37 Try.sizeOf3 rfl rfl (⟨by omega, by omega⟩)) rfl rfl (gj_yes rfl rfl rfl (y_ld0 (reads_sl) Try.isAgg3 rfl (hz) rfl) rfl rfl (gj_yes rfl rfl rfl (y_geq rfl rfl) rfl rfl (gj_nil rfl)))))) ?_
        refine gj_step (y_and rfl rfl rfl) rfl rfl rfl (gj_step (y_move rfl) rfl rfl rfl (?_))
        refine gj_g 17 45 62 rfl rfl rfl rfl (fun hg45 => gj_yes rfl rfl rfl (y_move rfl) rfl rfl (gj_yes rfl rfl rfl (y_move rfl) rfl rfl (gj_yes rfl rfl rfl (y_ixR (reads_sl) Try.underlying37 Try.sizeOf3 rfl rfl (⟨by omega, by omega⟩)) rfl rfl (gj_yes rfl rfl rfl (y_ld0 (reads_sl) Try.isAgg3 rfl (hy) rfl) rfl rfl (gj_yes rfl rfl rfl (y_move rfl) rfl rfl (gj_yes rfl rfl rfl (y_move rfl) rfl rfl (gj_yes rfl rfl rfl (y_ixR (reads_sl) Try.underlying37 Try.sizeOf3 rfl rfl (⟨by omega, by omega⟩)) rfl rfl (gj_yes rfl rfl rfl (y_ld0 (reads_sl) Try.isAgg3 rfl (hz) rfl) rfl rfl (gj_yes rfl rfl rfl (y_sub rfl rfl (by omega)) rfl rfl (gj_yes rfl rfl rfl (y_call Try.call63 rfl (fun w hp => k_Size (p - q) w (by omega))) rfl rfl (gj_yes rfl rfl rfl (y_move rfl) rfl rfl (gj_yes rfl rfl rfl (y_move rfl) rfl rfl (gj_yes rfl rfl rfl (y_ixR (reads_sl) Try.underlying35 Try.sizeOf57 rfl rfl (⟨by omega, by omega⟩)) rfl rfl (gj_yes rfl rfl rfl (y_faE fa57_0 rfl) rfl rfl (gj_yes rfl rfl rfl (y_ld1 (reads_sl) Try.isAgg3 rfl (hx) rfl) rfl rfl (gj_yes rfl rfl rfl (y_mul rfl rfl (by omega)) rfl rfl (gj_yes rfl rfl rfl (y_gtr rfl rfl) rfl rfl (gj_nil rfl)))))))))))))))))) ?_
        refine gj_step (y_and rfl rfl rfl) rfl rfl rfl (?_)
        refine gj_nil ?_
        refine ej_th ?_
        refine cj_cond rfl (fun h63 => ?_) (fun h63 => ?_)
        · have h63b := h63
          try simp only [sxb] at h63
          refine cj_seq ?_
          refine cj_regionG (gj_step (y_assign rfl) rfl rfl rfl (gj_step (y_assign rfl) rfl rfl rfl (gj_nil ?_)))
          refine ej_th (cj_ret (ej_blk_ret (ej_then_ret (ej_then_ret (ej_blk_ret (ej_then_ret ?_))))))
          obtain ⟨e1, e2⟩ := agr_yes hmo hro
          rw [← hsk, ← hdV, h63b] at e2
          exact ej_ret2 rfl Try.results25 rfl rfl (fun w' hp => ⟨by rw [e2, e1 ]; rfl, hp.below⟩)
        · have h63b := h63
          try simp only [sxb] at h63
          refine cj_skip (ej_blk (ej_th ?_))
          refine cj_regionG (gj_step (y_move rfl) rfl rfl rfl (gj_step (y_add rfl rfl (by omega)) rfl rfl rfl (gj_step (y_assign rfl) rfl rfl rfl (gj_nil ?_))))
          exact ej_nx (k + 1) (by omega) ⟨by omega, by rw [← hsk, ← hdV, h63b]; rfl⟩ ⟨rfl, rfl, rfl, rfl, trivial⟩
      · have h30b := h30
        try simp only [sxb] at h30
        refine cj_exit (ej_then_exit (ej_then_exit (ej_blk_hit (ej_th (cj_seq ?_)))))
        refine cj_regionG (gj_step (y_assign rfl) rfl rfl rfl (gj_step (y_assign rfl) rfl rfl rfl (gj_nil ?_)))
        refine ej_th (cj_ret ?_)
        obtain ⟨e1, e2⟩ := agr_yes hmo hro
        rw [← hsk, List.drop_of_length_le (show ms.length ≤ k by omega)] at e2
        exact ej_ret2 rfl Try.results25 rfl rfl (fun w' hp => ⟨by rw [e2, e1 ]; rfl, hp.below⟩)

theorem k_rNarrow (ms : List Meas) (A : Option Addr) (c : Nat) (ls : List ListV) (B : Option Addr) (d : Nat) (w : World) (hm : Rd w 2 encMe A ms) (hl : Rd w 1 encLs B ls) (hgl : ∀ r ∈ ls, GoodL w r) : Calls Try.prog 20 #[.slice A ms.length c, .slice B ls.length d] w (fun e w' => ∃ A c, e = .returned (.tuple #[.slice A (NarL ms ls).length c, .int .i64 (NarE ms ls)]) ∧ Grow w w' ∧ Res w w' 2 encSp A (NarL ms ls)) := by
  have hlm := hm.len
  have hll := hl.len
  refine enter_pure (args := [.slice A ms.length c, .slice B ls.length d]) [sl (fun b => b < w.heap.size) 2 encMe A ms, sl (fun b => b < w.heap.size) 1 encLs B ls] Try.func20 rfl (by rw [Try.ntmps20]; simp) (fun g hg => by simp at hg; rcases hg with rfl | rfl; exact ⟨hm, fun _ h => h⟩; exact ⟨hl, fun _ h => h⟩) ?_
  refine cj_seq ?_
  refine cj_regionG (gj_step (y_assign rfl) rfl rfl rfl (gj_step (y_assign rfl) rfl rfl rfl (gj_nil ?_)))
  refine ej_th (cj_seq (cj_seq ?_))
  refine cj_regionG ?_
  refine gj_step (y_move rfl) rfl rfl rfl (?_)
  refine gj_step (y_call Try.call23 rfl (fun w hp => k_rCheckM _ _ _ w hp.rd)) rfl rfl rfl ?_
  refine gj_step (y_assign rfl) rfl rfl rfl (?_)
  refine gj_nil ?_
  refine ej_th (cj_seq ?_)
  refine cj_regionG (gj_step (y_move rfl) rfl rfl rfl (gj_step (y_neq rfl rfl) rfl rfl rfl (gj_nil ?_)))
  refine ej_th ?_
  refine cj_cond rfl (fun h16 => ?_) (fun h16 => ?_)
  · have h16b := h16
    try simp only [sxb] at h16
    have hno := meas_no h16b
    refine cj_seq ?_
    refine cj_regionG (gj_step (y_move rfl) rfl rfl rfl (gj_step (y_assign rfl) rfl rfl rfl (gj_step (y_assign rfl) rfl rfl rfl (gj_nil ?_))))
    refine ej_th (cj_ret (ej_then_ret ?_))
    obtain ⟨e1, e2⟩ := nar_no1 (ls := ls) hno
    exact ej_ret2 rfl Try.results20 rfl rfl (fun w' hp => ⟨none, 0, by rw [e1, e2, measE, hno]; rfl, hp.below, by rw [e2]; exact Res.nil⟩)
  · have h16b := h16
    try simp only [sxb] at h16
    have hmo := meas_0 h16b
    obtain ⟨hml, hmb⟩ := meas_bd hmo
    refine cj_skip (ej_th (cj_seq (cj_seq ?_)))
    refine cj_regionG (gj_step (y_move rfl) rfl rfl rfl (gj_step (y_lenA Try.underlying36 rfl) rfl rfl rfl (gj_step (y_gtr rfl rfl) rfl rfl rfl (gj_nil ?_))))
    refine ej_th ?_
    refine cj_cond rfl (fun h20 => ?_) (fun h20 => ?_)
    · have h20b := h20
      try simp only [sxb] at h20
      refine cj_seq ?_
      refine cj_regionG (gj_step (y_assign rfl) rfl rfl rfl (gj_step (y_assign rfl) rfl rfl rfl (gj_nil ?_)))
      refine ej_th (cj_ret (ej_then_ret ?_))
      obtain ⟨e1, e2⟩ := nar_no2 hmo h20b
      exact ej_ret2 rfl Try.results20 rfl rfl (fun w' hp => ⟨none, 0, by rw [e1, e2]; rfl, hp.below, by rw [e2]; exact Res.nil⟩)
    · have h20b := h20
      try simp only [sxb] at h20
      refine cj_skip (ej_th (cj_seq (cj_seq ?_)))
      refine cj_regionG (gj_step (y_assign rfl) rfl rfl rfl (gj_nil ?_))
      refine ej_th (cj_block ?_)
      refine cj_lpic (X := Nat) [(0, _), (1, _)] (fun i => i ≤ ls.length ∧ (ls.drop i).all (rdOkV ms.length) = ls.all (rdOkV ms.length)) (fun i => [(7, .int .i64 i)]) (fun i => ls.length - i) 0 (⟨Nat.zero_le _, rfl⟩) ⟨rfl, rfl, rfl, trivial⟩ ?_
      rintro i ⟨hi, hsi⟩
      dsimp only [List.cons_append, List.nil_append]
      refine cj_seq (cj_seq ?_)
      refine cj_regionG (gj_step (y_move rfl) rfl rfl rfl (gj_step (y_move rfl) rfl rfl rfl (gj_step (y_lenA Try.underlying36 rfl) rfl rfl rfl (gj_step (y_lss rfl rfl) rfl rfl rfl (gj_nil ?_)))))
      refine ej_th ?_
      refine cj_cond rfl (fun h24 => ?_) (fun h24 => ?_)
      · have h24b := h24
        try simp only [sxb] at h24
        obtain ⟨r, hy⟩ : ∃ r, ls[i]? = some r := ⟨_, List.getElem?_eq_getElem (by omega)⟩
        rw [all_drop (rdOkV ms.length) ls i r hy] at hsi
        have hgr := hgl r (List.mem_of_getElem? hy)
        refine cj_rd hgr (fun _ h => h) ?_
        refine cj_skip (ej_th (cj_seq (cj_block (cj_seq ?_))))
        refine cj_regionG ?_
        refine gj_step (y_move rfl) rfl rfl rfl (gj_step (y_move rfl) rfl rfl rfl (gj_step (y_ixR (reads_sl) Try.underlying36 Try.sizeOf37 rfl rfl (⟨by omega, by omega⟩)) rfl rfl rfl (gj_step (y_ld0 (reads_sl) Try.isAgg37 rfl (hy) rfl) rfl rfl rfl (gj_step (y_move rfl) rfl rfl rfl (gj_step (y_lenA Try.underlying35 rfl) rfl rfl rfl (?_))))))
        refine gj_step (y_call Try.call61 rfl (fun w hp => k_rreadings r.l r.A r.c ms.length w hp.rd)) rfl rfl rfl ?_
        refine gj_step (y_not rfl) rfl rfl rfl (?_)
        refine gj_nil ?_
        refine ej_th ?_
        refine cj_cond rfl (fun h34 => ?_) (fun h34 => ?_)
        · have h34b := h34
          try simp only [sxb] at h34
          refine cj_seq ?_
          refine cj_regionG (gj_step (y_assign rfl) rfl rfl rfl (gj_step (y_assign rfl) rfl rfl rfl (gj_nil ?_)))
          refine ej_th (cj_ret (ej_blk_ret (ej_then_ret (ej_then_ret (ej_blk_ret (ej_then_ret ?_))))))
          obtain ⟨e1, e2⟩ := nar_no3 hmo h20b (by rw [← hsi, show rdOkV ms.length r = false from not_t h34b]; rfl)
          exact ej_ret2 rfl Try.results20 rfl rfl (fun w' hp => ⟨none, 0, by rw [e1, e2]; rfl, hp.below, by rw [e2]; exact Res.nil⟩)
        · have h34b := h34
          try simp only [sxb] at h34
          refine cj_skip (ej_blk (ej_th ?_))
          refine cj_regionG (gj_step (y_move rfl) rfl rfl rfl (gj_step (y_add rfl rfl (by omega)) rfl rfl rfl (gj_step (y_assign rfl) rfl rfl rfl (gj_nil ?_))))
          exact ej_nx (i + 1) (by omega) ⟨by omega, by rw [← hsi, show rdOkV ms.length r = true from not_f h34b, Bool.true_and]⟩ ⟨rfl, rfl, rfl, trivial⟩
      · have h24b := h24
        try simp only [sxb] at h24
        have hro : ls.all (rdOkV ms.length) = true := by rw [← hsi, List.drop_of_length_le (by omega)]; rfl
        have hrb := rdsV_bd hro
        refine cj_exit (ej_then_exit (ej_then_exit (ej_blk_hit (ej_th (cj_seq ?_)))))
        refine cj_regionG (gj_step (y_assign rfl) rfl rfl rfl (gj_nil ?_))
        refine ej_th (cj_seq (cj_seq ?_))
        refine cj_regionG (gj_step (y_assign rfl) rfl rfl rfl (gj_nil ?_))
        refine ej_th (cj_block ?_)
        refine cj_ownNil 62 2 encSp ?_
        refine cj_lpi (X := Nat × Option Addr × Nat × List Span) [(0, _), (1, _)] (fun ⟨k, A1, c1, xs⟩ => k ≤ ms.length ∧ xs.length ≤ k ∧ (narF ls (ms.drop k) k).map (xs ++ ·) = narF ls ms 0) (fun ⟨k, A1, c1, xs⟩ => [(8, .slice A1 xs.length c1), (9, .int .i64 k)]) (fun ⟨k, A1, c1, xs⟩ => [ow 62 2 encSp A1 c1 xs]) (fun ⟨k, A1, c1, xs⟩ => [sl (fun b => b < w.heap.size) 2 encMe A ms, sl (fun b => b < w.heap.size) 1 encLs B ls]) (fun ⟨k, A1, c1, xs⟩ => ms.length - k) (0, none, 0, []) (⟨Nat.zero_le _, Nat.zero_le _, by simp⟩) ⟨rfl, rfl, rfl, rfl, trivial⟩ ?_
        rintro ⟨k, A1, c1, xs⟩ ⟨hk, hxl, hxs⟩
        dsimp only [List.cons_append, List.nil_append]
        refine cj_seq (cj_seq ?_)
        refine cj_regionG (gj_step (y_move rfl) rfl rfl rfl (gj_step (y_move rfl) rfl rfl rfl (gj_step (y_lenA Try.underlying35 rfl) rfl rfl rfl (gj_step (y_lss rfl rfl) rfl rfl rfl (gj_nil ?_)))))
        refine ej_th ?_
        refine cj_cond rfl (fun h38 => ?_) (fun h38 => ?_)
        · have h38b := h38
          try simp only [sxb] at h38
          obtain ⟨m, hx⟩ : ∃ m, ms[k]? = some m := ⟨_, List.getElem?_eq_getElem (by omega)⟩
          rw [narF_drop ls ms k m hx] at hxs
          have hmt := hmb m (List.mem_of_getElem? hx)
          refine cj_skip (ej_th (cj_seq (cj_block (cj_seq (cj_region ?_)))))
          refine oj_step (y_build (cs := [.int .i64 0, .int .i64 100000]) st62 rfl (by kernel_rfl)) rfl rfl rfl ?_
          refine oj_alloc Try.zeroValue62 rfl rfl (fun b10 => ?_)
          refine oj_store rfl rfl rfl rfl Try.sizeOf62 rfl ?_
          refine oj_nil ?_
          refine ej_th (cj_seq (cj_seq ?_))
          refine cj_regionG (gj_step (y_assign rfl) rfl rfl rfl (gj_nil ?_))
          refine ej_th (cj_block ?_)
          refine cj_lpi (X := Nat × Int × Int) [(8, _), (9, _), (0, _), (1, _), (10, _)] (fun ⟨j, lo, hi⟩ => j ≤ ls.length ∧ (-2000 ≤ lo ∧ lo ≤ 102000 ∧ -2000 ≤ hi ∧ hi ≤ 102000) ∧ narS m.tol ⟨lo, hi⟩ ((col k ls).drop j) = spK ls k m) (fun ⟨j, lo, hi⟩ => [(11, .int .i64 j)]) (fun ⟨j, lo, hi⟩ => [ownB b10 (cellsB 62 [.int .i64 lo, .int .i64 hi]), ow 62 2 encSp A1 c1 xs]) (fun ⟨j, lo, hi⟩ => [sl (fun b => b < w.heap.size) 2 encMe A ms, sl (fun b => b < w.heap.size) 1 encLs B ls]) (fun ⟨j, lo, hi⟩ => ls.length - j) (0, 0, 100000) (⟨Nat.zero_le _, by omega, rfl⟩) ⟨rfl, rfl, rfl, rfl, rfl, rfl, trivial⟩ ?_
          rintro ⟨j, lo, hi⟩ ⟨hj, hbd, hsj⟩
          dsimp only [List.cons_append, List.nil_append]
          refine cj_seq (cj_seq ?_)
          refine cj_regionG (gj_step (y_move rfl) rfl rfl rfl (gj_step (y_move rfl) rfl rfl rfl (gj_step (y_lenA Try.underlying36 rfl) rfl rfl rfl (gj_step (y_lss rfl rfl) rfl rfl rfl (gj_nil ?_)))))
          refine ej_th ?_
          refine cj_cond rfl (fun h45 => ?_) (fun h45 => ?_)
          · have h45b := h45
            try simp only [sxb] at h45
            obtain ⟨r, hy⟩ : ∃ r, ls[j]? = some r := ⟨_, List.getElem?_eq_getElem (by omega)⟩
            have hgr := hgl r (List.mem_of_getElem? hy)
            have hl2 := hgr.len
            have hrr := hrb r (List.mem_of_getElem? hy)
            obtain ⟨n, hn⟩ : ∃ n, r.l[k]? = some n := ⟨_, List.getElem?_eq_getElem (by omega)⟩
            have hnb := hrr.2 n (List.mem_of_getElem? hn)
            rw [narS_drop m.tol ⟨lo, hi⟩ _ j n (col_get ls j k r n hy hn)] at hsj
            refine cj_rd hgr (fun _ h => h) ?_
            refine cj_skip (ej_th (cj_seq (cj_block (cj_seq ?_))))
            refine cj_regionG (gj_step (y_move rfl) rfl rfl rfl (gj_step (y_move rfl) rfl rfl rfl (gj_step (y_ixR (reads_sl) Try.underlying36 Try.sizeOf37 rfl rfl (⟨by omega, by omega⟩)) rfl rfl rfl (gj_step (y_ld0 (reads_sl) Try.isAgg37 rfl (hy) rfl) rfl rfl rfl (gj_step (y_move rfl) rfl rfl rfl (gj_step (y_ixR (reads_sl) Try.underlying37 Try.sizeOf3 rfl rfl (⟨by omega, by omega⟩)) rfl rfl rfl (gj_step (y_ld0 (reads_sl) Try.isAgg3 rfl (hn) rfl) rfl rfl rfl (gj_step (y_assign rfl) rfl rfl rfl (gj_nil ?_)))))))))
            refine ej_th (cj_seq ?_)
            refine cj_regionG (gj_step (y_move rfl) rfl rfl rfl (gj_step (y_geq rfl rfl) rfl rfl rfl (gj_nil ?_)))
            refine ej_th ?_
            refine cj_cond rfl (fun h56 => ?_) (fun h56 => ?_)
            · have h56b := h56
              try simp only [sxb] at h56
              have hn1 : nar1 m.tol ⟨lo, hi⟩ n = ⟨max lo (n - m.tol), min hi (n + m.tol)⟩ := by unfold nar1; rw [if_pos h56]
              rw [hn1] at hsj
              refine cj_plan 22 (by kernel_rfl) (by kernel_rfl) ?_
              refine pl_y 0 rfl (y_fa0 fa62_0 rfl) rfl rfl rfl rfl (by kernel_rfl) ?_
              refine pl_y 1 rfl (y_load1 Try.isAgg3 rfl rfl) rfl rfl rfl rfl (by kernel_rfl) ?_
              refine pl_y 2 rfl (y_move rfl) rfl rfl rfl rfl (by kernel_rfl) ?_
              refine pl_y 3 rfl (y_move rfl) rfl rfl rfl rfl (by kernel_rfl) ?_
              refine pl_y 4 rfl (y_move rfl) rfl rfl rfl rfl (by kernel_rfl) ?_
              refine pl_y 5 rfl (y_ixR (reads_sl) Try.underlying35 Try.sizeOf57 rfl rfl (⟨by omega, by omega⟩)) rfl rfl rfl rfl (by kernel_rfl) ?_
              refine pl_y 6 rfl (y_faE fa57_0 rfl) rfl rfl rfl rfl (by kernel_rfl) ?_
              refine pl_y 7 rfl (y_ld1 (reads_sl) Try.isAgg3 rfl (hx) rfl) rfl rfl rfl rfl (by kernel_rfl) ?_
              refine pl_y 8 rfl (y_sub rfl rfl (by omega)) rfl rfl rfl rfl (by kernel_rfl) ?_
              refine pl_y 9 rfl (y_max rfl rfl) rfl rfl rfl rfl (by kernel_rfl) ?_
              refine pl_y 10 rfl (y_fa fa62_1 rfl) rfl rfl rfl rfl (by kernel_rfl) ?_
              refine pl_y 11 rfl (y_load1 Try.isAgg3 rfl rfl) rfl rfl rfl rfl (by kernel_rfl) ?_
              refine pl_y 12 rfl (y_move rfl) rfl rfl rfl rfl (by kernel_rfl) ?_
              refine pl_y 13 rfl (y_move rfl) rfl rfl rfl rfl (by kernel_rfl) ?_
              refine pl_y 14 rfl (y_move rfl) rfl rfl rfl rfl (by kernel_rfl) ?_
              refine pl_y 15 rfl (y_ixR (reads_sl) Try.underlying35 Try.sizeOf57 rfl rfl (⟨by omega, by omega⟩)) rfl rfl rfl rfl (by kernel_rfl) ?_
              refine pl_y 16 rfl (y_faE fa57_0 rfl) rfl rfl rfl rfl (by kernel_rfl) ?_
              refine pl_y 17 rfl (y_ld1 (reads_sl) Try.isAgg3 rfl (hx) rfl) rfl rfl rfl rfl (by kernel_rfl) ?_
              refine pl_y 18 rfl (y_add rfl rfl (by omega)) rfl rfl rfl rfl (by kernel_rfl) ?_
              refine pl_y 19 rfl (y_min rfl rfl) rfl rfl rfl rfl (by kernel_rfl) ?_
              refine pl_y 20 rfl (y_build (cs := [.int .i64 (max lo (n - m.tol)), .int .i64 (min hi (n + m.tol))]) st62 rfl (by kernel_rfl)) rfl rfl rfl rfl (by kernel_rfl) ?_
              refine pl_w1 21 (by kernel_rfl) rfl rfl (pl_fire rfl rfl rfl (by kernel_rfl) ?_)
              refine oj_store rfl rfl rfl rfl Try.sizeOf62 rfl ?_
              refine oj_nil ?_
              refine ej_pl (lt_w (by kernel_rfl) (lt_w (by kernel_rfl) (lt_w (by kernel_rfl) (lt_w (by kernel_rfl) (lt_w (by kernel_rfl) (lt_w (by kernel_rfl) (lt_w (by kernel_rfl) (lt_w (by kernel_rfl) (lt_w (by kernel_rfl) (lt_w (by kernel_rfl) (lt_w (by kernel_rfl) (lt_w (by kernel_rfl) (lt_w (by kernel_rfl) (lt_w (by kernel_rfl) (lt_w (by kernel_rfl) (lt_w (by kernel_rfl) (lt_w (by kernel_rfl) (lt_w (by kernel_rfl) (lt_w (by kernel_rfl) (lt_w (by kernel_rfl) (lt_w (by kernel_rfl) (lt_nil)))))))))))))))))))))) ?_
              refine pl_end (by kernel_rfl) ?_
              refine ej_blk (ej_th ?_)
              refine cj_regionG (gj_step (y_move rfl) rfl rfl rfl (gj_step (y_add rfl rfl (by omega)) rfl rfl rfl (gj_step (y_assign rfl) rfl rfl rfl (gj_nil ?_))))
              exact ej_nx (j + 1, max lo (n - m.tol), min hi (n + m.tol)) (by simp only; omega) ⟨by first | omega | (simp only; omega), by simp only; omega, hsj⟩ ⟨rfl, rfl, rfl, rfl, rfl, rfl, trivial⟩
            · have h56b := h56
              try simp only [sxb] at h56
              have hn1 : nar1 m.tol ⟨lo, hi⟩ n = ⟨lo, hi⟩ := by unfold nar1; rw [if_neg (by omega)]
              rw [hn1] at hsj
              refine cj_skip (ej_blk (ej_th ?_))
              refine cj_regionG (gj_step (y_move rfl) rfl rfl rfl (gj_step (y_add rfl rfl (by omega)) rfl rfl rfl (gj_step (y_assign rfl) rfl rfl rfl (gj_nil ?_))))
              exact ej_nx (j + 1, lo, hi) (by simp only; omega) ⟨by first | omega | (simp only; omega), hbd, hsj⟩ ⟨rfl, rfl, rfl, rfl, rfl, rfl, trivial⟩
          · have h45b := h45
            try simp only [sxb] at h45
            rw [List.drop_of_length_le (by rw [col_len]; omega)] at hsj
            have hsp : spK ls k m = ⟨lo, hi⟩ := hsj.symm
            refine cj_exit (ej_then_exit (ej_then_exit (ej_blk_hit (ej_th (cj_seq (cj_seq ?_))))))
            refine cj_regionG (gj_step (y_fa0 fa62_0 rfl) rfl rfl rfl (gj_step (y_load1 Try.isAgg3 rfl rfl) rfl rfl rfl (gj_step (y_fa fa62_1 rfl) rfl rfl rfl (gj_step (y_load1 Try.isAgg3 rfl rfl) rfl rfl rfl (gj_step (y_gtr rfl rfl) rfl rfl rfl (gj_nil ?_))))))
            refine ej_th ?_
            refine cj_cond rfl (fun h82 => ?_) (fun h82 => ?_)
            · have h82b := h82
              try simp only [sxb] at h82
              rw [hsp, if_pos (by simp only; omega)] at hxs
              refine cj_seq ?_
              refine cj_regionG (gj_step (y_assign rfl) rfl rfl rfl (gj_step (y_assign rfl) rfl rfl rfl (gj_nil ?_)))
              refine ej_th (cj_ret (ej_then_ret (ej_blk_ret (ej_then_ret (ej_then_ret (ej_blk_ret (ej_then_ret ?_)))))))
              obtain ⟨e1, e2⟩ := nar_no4 hmo h20b hro hxs.symm
              exact ej_ret2 rfl Try.results20 rfl rfl (fun w' hp => ⟨none, 0, by rw [e1, e2]; rfl, hp.below, by rw [e2]; exact Res.nil⟩)
            · have h82b := h82
              try simp only [sxb] at h82
              rw [hsp, if_neg (by simp only; omega)] at hxs
              refine cj_skip (ej_th (cj_region ?_))
              refine oj_step (y_move rfl) rfl rfl rfl ?_
              refine oj_step (y_loadN Try.isAgg62 Try.sizeOf62 rfl) rfl rfl rfl ?_
              refine oj_buildSlice (cs := [.int .i64 lo, .int .i64 hi]) [.int .i64 0, .int .i64 0] Try.underlying39 Try.sizeOf62 Try.zeroValue62 rfl rfl (by kernel_rfl) (by kernel_rfl) rfl (fun b85 => ?_)
              refine oj_append  el39 (fun _ => rfl) encSp_one rfl rfl rfl (reads_lit [(⟨lo, hi⟩ : Span)] (fun _ => rfl) rfl) (by simp [maxLen]; omega) (by simp; omega) rfl (fun A86 c86 => ?_)
              refine oj_step (y_assign rfl) rfl rfl rfl ?_
              refine oj_nil ?_
              refine ej_blk (ej_th ?_)
              refine cj_regionG (gj_step (y_move rfl) rfl rfl rfl (gj_step (y_add rfl rfl (by omega)) rfl rfl rfl (gj_step (y_assign rfl) rfl rfl rfl (gj_nil ?_))))
              exact ej_nx (k + 1, A86, c86, xs ++ [⟨lo, hi⟩]) (by simp only; omega) ⟨by first | omega | (simp only; omega), by simp only [List.length_append, List.length_cons, List.length_nil]; omega, by rw [← hxs]; cases narF ls (ms.drop (k + 1)) (k + 1) <;> simp⟩ ⟨rfl, rfl, rfl, rfl, trivial⟩
        · have h38b := h38
          try simp only [sxb] at h38
          rw [List.drop_of_length_le (show ms.length ≤ k by omega)] at hxs
          refine cj_exit (ej_then_exit (ej_then_exit (ej_blk_hit (ej_th (cj_seq ?_)))))
          refine cj_regionG (gj_step (y_move rfl) rfl rfl rfl (gj_step (y_assign rfl) rfl rfl rfl (gj_step (y_assign rfl) rfl rfl rfl (gj_nil ?_))))
          refine ej_th (cj_ret ?_)
          obtain ⟨e1, e2⟩ := nar_yes hmo h20b hro (hxs.symm.trans (by simp [narF] : _ = some xs))
          exact ej_ret2 rfl Try.results20 rfl rfl (fun w' hp => ⟨A1, c1, by rw [e1, e2], hp.below, by rw [e2]; exact hp.res (fun _ => rfl) (by unfold maxLen; omega)⟩)

end Go.Proofs.Ytlfbghkcfmcnlaa
namespace Go.Proofs.Ytlfbghkcfmcnlaa
open Go.Sx Go.RowKit
set_option maxRecDepth 20000

end Go.Proofs.Ytlfbghkcfmcnlaa
namespace Go.Proofs.Ytlfbghkcfmcnlaa
open Go.Sx Go.RowKit
set_option maxRecDepth 20000
theorem k_rFinds (ms : List Meas) (A : Option Addr) (c : Nat) (tk : List Int) (At : Option Addr) (ct : Nat) (f : FakeV) (w : World) (hm : Rd w 2 encMe A ms) (ht : Rd w 1 enInt At tk) (hr : Rd w 2 encSp f.A f.has) : Calls Try.prog 46 #[.slice A ms.length c, .slice At tk.length ct, evFk f] w (fun e w' => ∃ A c, e = .returned (.tuple #[.slice A (FndL ms tk f).length c, .int .i64 (FndE ms tk f)]) ∧ Grow w w' ∧ Res w w' 1 enInt A (FndL ms tk f)) := by
  refine enter_pure (args := [.slice A ms.length c, .slice At tk.length ct, evFk f]) [sl (fun b => b < w.heap.size) 2 encMe A ms, sl (fun b => b < w.heap.size) 1 enInt At tk, sl (fun b => b < w.heap.size) 2 encSp f.A f.has] Try.func46 rfl (by rw [Try.ntmps46]; simp) (fun g hg => by simp at hg; rcases hg with rfl | rfl | rfl; exact ⟨hm, fun _ h => h⟩; exact ⟨ht, fun _ h => h⟩; exact ⟨hr, fun _ h => h⟩) ?_
  refine cj_seq (cj_region ?_)
  refine oj_box rfl rfl rfl (fun b5 => ?_)
  refine oj_step (y_assign rfl) rfl rfl rfl ?_
  refine oj_step (y_assign rfl) rfl rfl rfl ?_
  refine oj_nil ?_
  refine ej_th (cj_seq (cj_seq (cj_region ?_)))
  refine oj_step (y_move rfl) rfl rfl rfl ?_
  refine oj_step (y_move rfl) rfl rfl rfl ?_
  refine oj_step (y_loadN Try.isAgg80 Try.sizeOf80 rfl) rfl rfl rfl ?_
  refine oj_buildSlice (cs := [.slice f.A f.has.length f.c]) [.slice none 0 0] Try.underlying46 Try.sizeOf80 Try.zeroValue80 rfl rfl (by kernel_rfl) (by kernel_rfl) rfl (fun b14 => ?_)
  refine oj_step (y_call Try.call69 rfl (fun w hp => k_rasked ms A c tk At ct [f] (some ⟨b14, 0, none⟩) 1 w hp.rd hp.rd (hp.rdLit (sz := 1) (enc := encFk) [f] (fun _ => rfl) rfl (by unfold maxLen; simp)) (fun g hg => by rw [List.mem_singleton.1 hg]; exact hr.mono hp.below))) rfl rfl rfl ?_
  refine oj_step (y_assign rfl) rfl rfl rfl ?_
  refine oj_nil ?_
  refine ej_th (cj_seq ?_)
  refine cj_regionG (gj_step (y_move rfl) rfl rfl rfl (gj_step (y_neq rfl rfl) rfl rfl rfl (gj_nil ?_)))
  refine ej_th ?_
  refine cj_cond rfl (fun h17 => ?_) (fun h17 => ?_)
  · have h17b := h17
    try simp only [sxb] at h17
    have hno := skill_no h17b
    refine cj_seq ?_
    refine cj_regionG (gj_step (y_move rfl) rfl rfl rfl (gj_step (y_assign rfl) rfl rfl rfl (gj_step (y_assign rfl) rfl rfl rfl (gj_nil ?_))))
    refine ej_th (cj_ret (ej_then_ret ?_))
    have e1 : FndL ms tk f = [] := by rw [FndL, FndE, if_neg hno]
    exact ej_ret2 rfl Try.results46 rfl rfl (fun w' hp => ⟨none, 0, by rw [e1]; rfl, hp.below, by rw [e1]; exact Res.nil⟩)
  · have h17b := h17
    try simp only [sxb] at h17
    obtain ⟨hmo, hto, hfo, hz⟩ := skill_0 h17b
    obtain ⟨hml, hmb⟩ := meas_bd hmo
    have htb := rdOk_bd hto
    obtain ⟨hfl, hfb⟩ := fakes_bd hfo
    have hhl := (hfb f (List.mem_singleton.2 rfl)).1
    refine cj_skip (ej_th (cj_seq ?_))
    refine cj_regionG (gj_step (y_assign rfl) rfl rfl rfl (gj_nil ?_))
    refine ej_th (cj_seq (cj_seq ?_))
    refine cj_regionG (gj_step (y_assign rfl) rfl rfl rfl (gj_nil ?_))
    refine ej_th (cj_block ?_)
    refine cj_ownNil 3 1 enInt ?_
    refine cj_lpi (X := Nat × Option Addr × Nat × List Int) [(0, _), (1, _), (5, _), (6, _), (7, _)] (fun ⟨k, A1, c1, xs⟩ => k ≤ ms.length ∧ xs.length ≤ k ∧ xs ++ fndF (ms.drop k) (tk.drop k) (f.has.drop k) k = (foundL ms tk f)) (fun ⟨k, A1, c1, xs⟩ => [(9, .slice A1 xs.length c1), (10, .int .i64 k)]) (fun ⟨k, A1, c1, xs⟩ => [ow 3 1 enInt A1 c1 xs, ownB b5 (cellsB 80 [.slice f.A f.has.length f.c])]) (fun ⟨k, A1, c1, xs⟩ => [sl (fun b => b < w.heap.size) 2 encMe A ms, sl (fun b => b < w.heap.size) 1 enInt At tk, sl (fun b => b < w.heap.size) 2 encSp f.A f.has]) (fun ⟨k, A1, c1, xs⟩ => ms.length - k) (0, none, 0, []) (⟨Nat.zero_le _, Nat.zero_le _, rfl⟩) ⟨rfl, rfl, rfl, rfl, rfl, rfl, rfl, trivial⟩ ?_
    rintro ⟨k, A1, c1, xs⟩ ⟨hk, hxl, hxs⟩
    dsimp only [List.cons_append, List.nil_append]
    refine cj_seq (cj_seq ?_)
    refine cj_regionG (gj_step (y_move rfl) rfl rfl rfl (gj_step (y_move rfl) rfl rfl rfl (gj_step (y_lenA Try.underlying35 rfl) rfl rfl rfl (gj_step (y_lss rfl rfl) rfl rfl rfl (gj_nil ?_)))))
    refine ej_th ?_
    refine cj_cond rfl (fun h22 => ?_) (fun h22 => ?_)
    · have h22b := h22
      try simp only [sxb] at h22
      obtain ⟨m, hx⟩ : ∃ m, ms[k]? = some m := ⟨_, List.getElem?_eq_getElem (by omega)⟩
      obtain ⟨r, hy⟩ : ∃ r, tk[k]? = some r := ⟨_, List.getElem?_eq_getElem (by omega)⟩
      obtain ⟨s, hw⟩ : ∃ s, f.has[k]? = some s := ⟨_, List.getElem?_eq_getElem (by omega)⟩
      rw [fndF_drop ms tk f.has k m r s hx hy hw] at hxs
      refine cj_skip (ej_th (cj_seq (cj_block (cj_seq ?_))))
      refine cj_draw (by kernel_rfl) (by kernel_rfl) ?_
      refine gj_step (y_move rfl) rfl rfl rfl (gj_step (y_move rfl) rfl rfl rfl (gj_step (y_ixR (reads_sl) Try.underlying35 Try.sizeOf57 rfl rfl (⟨by omega, by omega⟩)) rfl rfl rfl (gj_step (y_ldW (reads_sl) Try.isAgg57 Try.sizeOf57 rfl (hx) (fun _ => rfl)) rfl rfl rfl (gj_step (y_move rfl) rfl rfl rfl (gj_step (y_move rfl) rfl rfl rfl (gj_step (y_ixR (reads_sl) Try.underlying37 Try.sizeOf3 rfl rfl (⟨by omega, by omega⟩)) rfl rfl rfl (gj_step (y_ld0 (reads_sl) Try.isAgg3 rfl (hy) rfl) rfl rfl rfl (gj_step (y_fa0 fa80_0 rfl) rfl rfl rfl (gj_step (y_load1 Try.isAgg39 rfl rfl) rfl rfl rfl (gj_step (y_move rfl) rfl rfl rfl (gj_step (y_ixR (reads_sl) Try.underlying39 Try.sizeOf62 rfl rfl (⟨by omega, by omega⟩)) rfl rfl rfl (gj_step (y_ldW (reads_sl) Try.isAgg62 Try.sizeOf62 rfl (hw) (fun _ => rfl)) rfl rfl rfl (?_)))))))))))))
      refine gj_step (y_call Try.call78 rfl (fun w hp => k_rfinds m r s w ⟨htb.2 r (List.mem_of_getElem? hy), (hmb m (List.mem_of_getElem? hx)).1⟩)) rfl rfl rfl ?_
      refine gj_nil ?_
      refine ej_th ?_
      refine cj_cond rfl (fun h38 => ?_) (fun h38 => ?_)
      · have h38b := h38
        try simp only [sxb] at h38
        rw [if_pos h38b] at hxs
        refine cj_region ?_
        refine oj_step (y_move rfl) rfl rfl rfl ?_
        refine oj_step (y_move rfl) rfl rfl rfl ?_
        refine oj_buildSlice [.int .i64 0] Try.underlying37 Try.sizeOf3 Try.zeroValue3 rfl rfl (by kernel_rfl) rfl rfl (fun b41 => ?_)
        refine oj_append  el37 (fun _ => rfl) enInt_one rfl rfl rfl (reads_lit [(k : Int)] (fun _ => rfl) rfl) (by simp [maxLen]; omega) (by simp; omega) rfl (fun A42 c42 => ?_)
        refine oj_step (y_assign rfl) rfl rfl rfl ?_
        refine oj_nil ?_
        refine ej_blk (ej_th ?_)
        refine cj_regionG (gj_step (y_move rfl) rfl rfl rfl (gj_step (y_add rfl rfl (by omega)) rfl rfl rfl (gj_step (y_assign rfl) rfl rfl rfl (gj_nil ?_))))
        exact ej_nx (k + 1, A42, c42, xs ++ [(k : Int)]) (by simp only; omega) ⟨by first | omega | (simp only; omega), by simp only [List.length_append, List.length_cons, List.length_nil]; omega, by rw [List.append_assoc]; exact hxs⟩ ⟨rfl, rfl, rfl, rfl, rfl, rfl, rfl, trivial⟩
      · have h38b := h38
        try simp only [sxb] at h38
        rw [if_neg (by simp [h38b])] at hxs
        refine cj_skip (ej_blk (ej_th ?_))
        refine cj_regionG (gj_step (y_move rfl) rfl rfl rfl (gj_step (y_add rfl rfl (by omega)) rfl rfl rfl (gj_step (y_assign rfl) rfl rfl rfl (gj_nil ?_))))
        exact ej_nx (k + 1, A1, c1, xs) (by simp only; omega) ⟨by first | omega | (simp only; omega), by simp only; omega, hxs⟩ ⟨rfl, rfl, rfl, rfl, rfl, rfl, rfl, trivial⟩
    · have h22b := h22
      try simp only [sxb] at h22
      have hxe : xs = (foundL ms tk f) := by rw [← hxs, List.drop_of_length_le (show ms.length ≤ k by omega), fndF_nil, List.append_nil]
      refine cj_exit (ej_then_exit (ej_then_exit (ej_blk_hit (ej_th (cj_seq ?_)))))
      refine cj_regionG (gj_step (y_move rfl) rfl rfl rfl (gj_step (y_assign rfl) rfl rfl rfl (gj_step (y_assign rfl) rfl rfl rfl (gj_nil ?_))))
      refine ej_th (cj_ret ?_)
      have e1 : FndL ms tk f = (foundL ms tk f) := by rw [FndL, FndE, if_pos hz]
      have e2 : FndE ms tk f = 0 := hz
      exact ej_ret2 rfl Try.results46 rfl rfl (fun w' hp => ⟨A1, c1, by rw [e1, e2, ← hxe], hp.below, by rw [e1, ← hxe]; exact hp.res (fun _ => rfl) (by unfold maxLen; omega)⟩)

theorem k_rshows (ms : List Meas) (A : Option Addr) (c : Nat) (tk : List Int) (At : Option Addr) (ct : Nat) (fs : List FakeV) (Af : Option Addr) (cf : Nat) (set : List Int) (As : Option Addr) (cs : Nat) (w : World) (hm : Rd w 2 encMe A ms) (ht : Rd w 1 enInt At tk) (hf : Rd w 1 encFk Af fs) (hgf : ∀ f ∈ fs, GoodK w f) (hs : Rd w 1 enInt As set) (hsr : ∀ i ∈ set, 0 ≤ i ∧ i < (ms.length : Int)) (hmb : ∀ m ∈ ms, (0 ≤ m.tol ∧ m.tol ≤ 1000) ∧ (1 ≤ m.lab ∧ m.lab ≤ 1000)) (htl : tk.length = ms.length ∧ ∀ x ∈ tk, -1 ≤ x ∧ x ≤ 100000) (hfb : ∀ f ∈ fs, f.has.length = ms.length) : Calls Try.prog 71 #[.slice A ms.length c, .slice At tk.length ct, .slice Af fs.length cf, .slice As set.length cs] w (fun e w' => e = .returned (.bool (shwB ms tk fs set)) ∧ Grow w w') := by
  have hlm := hm.len
  have hlf := hf.len
  have hls := hs.len
  refine enter_pure (args := [.slice A ms.length c, .slice At tk.length ct, .slice Af fs.length cf, .slice As set.length cs]) [sl (fun b => b < w.heap.size) 2 encMe A ms, sl (fun b => b < w.heap.size) 1 enInt At tk, sl (fun b => b < w.heap.size) 1 encFk Af fs, sl (fun b => b < w.heap.size) 1 enInt As set] Try.func71 rfl (by rw [Try.ntmps71]; simp) (fun g hg => by simp at hg; rcases hg with rfl | rfl | rfl | rfl; exact ⟨hm, fun _ h => h⟩; exact ⟨ht, fun _ h => h⟩; exact ⟨hf, fun _ h => h⟩; exact ⟨hs, fun _ h => h⟩) ?_
  refine cj_seq ?_
  refine cj_regionG (gj_step (y_assign rfl) rfl rfl rfl (gj_nil ?_))
  refine ej_th (cj_seq (cj_seq ?_))
  refine cj_regionG (gj_step (y_assign rfl) rfl rfl rfl (gj_nil ?_))
  refine ej_th (cj_block ?_)
  refine cj_lpic (X := Nat) [(0, _), (1, _), (2, _), (3, _)] (fun k => k ≤ fs.length ∧ (fs.drop k).all (shwF ms tk set) = shwB ms tk fs set) (fun k => [(9, .int .i64 k)]) (fun k => fs.length - k) 0 (⟨Nat.zero_le _, rfl⟩) ⟨rfl, rfl, rfl, rfl, rfl, trivial⟩ ?_
  rintro k ⟨hk, hsk⟩
  dsimp only [List.cons_append, List.nil_append]
  refine cj_seq (cj_seq ?_)
  refine cj_regionG (gj_step (y_move rfl) rfl rfl rfl (gj_step (y_move rfl) rfl rfl rfl (gj_step (y_lenA Try.underlying46 rfl) rfl rfl rfl (gj_step (y_lss rfl rfl) rfl rfl rfl (gj_nil ?_)))))
  refine ej_th ?_
  refine cj_cond rfl (fun h15 => ?_) (fun h15 => ?_)
  · have h15b := h15
    try simp only [sxb] at h15
    obtain ⟨f, hx⟩ : ∃ f, fs[k]? = some f := ⟨_, List.getElem?_eq_getElem (by omega)⟩
    rw [all_drop (shwF ms tk set) fs k f hx] at hsk
    have hgr := hgf f (List.mem_of_getElem? hx)
    have hl2 := hgr.len
    have hfl := hfb f (List.mem_of_getElem? hx)
    have hsr2 := shwF_ref htl.1 hfl hsr
    refine cj_rd hgr (fun _ h => h) ?_
    refine cj_skip (ej_th (cj_seq (cj_block (cj_seq ?_))))
    refine cj_regionG (gj_step (y_assign rfl) rfl rfl rfl (gj_nil ?_))
    refine ej_th (cj_seq (cj_seq ?_))
    refine cj_regionG (gj_step (y_assign rfl) rfl rfl rfl (gj_nil ?_))
    refine ej_th (cj_block ?_)
    refine cj_lpic (X := Nat × Bool) [(9, _), (0, _), (1, _), (2, _), (3, _)] (fun ⟨j, ok⟩ => j ≤ set.length ∧ (ok || (set.drop j).any (fndA ms tk f)) = set.any (fndA ms tk f)) (fun ⟨j, ok⟩ => [(10, .bool ok), (11, .int .i64 j)]) (fun ⟨j, ok⟩ => set.length - j) (0, false) (⟨Nat.zero_le _, rfl⟩) ⟨rfl, rfl, rfl, rfl, rfl, rfl, rfl, trivial⟩ ?_
    rintro ⟨j, ok⟩ ⟨hj, hsj⟩
    dsimp only [List.cons_append, List.nil_append]
    refine cj_seq (cj_seq ?_)
    refine cj_regionG (gj_step (y_move rfl) rfl rfl rfl (gj_step (y_move rfl) rfl rfl rfl (gj_step (y_lenA Try.underlying37 rfl) rfl rfl rfl (gj_step (y_lss rfl rfl) rfl rfl rfl (gj_nil ?_)))))
    refine ej_th ?_
    refine cj_cond rfl (fun h21 => ?_) (fun h21 => ?_)
    · have h21b := h21
      try simp only [sxb] at h21
      obtain ⟨i, hy⟩ : ∃ i, set[j]? = some i := ⟨_, List.getElem?_eq_getElem (by omega)⟩
      have hir := hsr i (List.mem_of_getElem? hy)
      obtain ⟨m, hmx⟩ : ∃ m, ms[i.toNat]? = some m := ⟨_, List.getElem?_eq_getElem (by omega)⟩
      obtain ⟨r, hrx⟩ : ∃ r, tk[i.toNat]? = some r := ⟨_, List.getElem?_eq_getElem (by omega)⟩
      obtain ⟨s, hsx⟩ : ∃ s, f.has[i.toNat]? = some s := ⟨_, List.getElem?_eq_getElem (by omega)⟩
      have hfa : fndA ms tk f i = fnd m r s := by
        unfold fndA
        rw [List.getD_eq_getElem?_getD, hmx, List.getD_eq_getElem?_getD, hrx, List.getD_eq_getElem?_getD, hsx]; rfl
      rw [any_drop (fndA ms tk f) set j i hy, hfa] at hsj
      refine cj_skip (ej_th (cj_seq (cj_block ?_)))
      refine cj_draw (by kernel_rfl) (by kernel_rfl) ?_
      refine gj_step (y_move rfl) rfl rfl rfl (gj_step (y_move rfl) rfl rfl rfl (?_))
      refine gj_g 26 25 51 rfl rfl rfl rfl (fun hg25 => gj_yes rfl rfl rfl (y_move rfl) rfl rfl (gj_yes rfl rfl rfl (y_move rfl) rfl rfl (gj_yes rfl rfl rfl (y_move rfl) rfl rfl (gj_yes rfl rfl rfl (y_ixR (reads_sl) Try.underlying37 Try.sizeOf3 rfl rfl (⟨by omega, by omega⟩)) rfl rfl (gj_yes rfl rfl rfl (y_ld0 (reads_sl) Try.isAgg3 rfl (hy) rfl) rfl rfl (gj_yes rfl rfl rfl (y_ixR (reads_sl) Try.underlying35 Try.sizeOf57 rfl rfl (⟨by omega, by omega⟩)) rfl rfl (gj_yes rfl rfl rfl (y_ldW (reads_sl) Try.isAgg57 Try.sizeOf57 rfl (hmx) (fun _ => rfl)) rfl rfl (gj_yes rfl rfl rfl (y_move rfl) rfl rfl (gj_yes rfl rfl rfl (y_move rfl) rfl rfl (gj_yes rfl rfl rfl (y_move rfl) rfl rfl (gj_yes rfl rfl rfl (y_ixR (reads_sl) Try.underlying37 Try.sizeOf3 rfl rfl (⟨by omega, by omega⟩)) rfl rfl (gj_yes rfl rfl rfl (y_ld0 (reads_sl) Try.isAgg3 rfl (hy) rfl) rfl rfl (gj_yes rfl rfl rfl (y_ixR (reads_sl) Try.underlying37 Try.sizeOf3 rfl rfl (⟨by omega, by omega⟩)) rfl rfl (gj_yes rfl rfl rfl (y_ld0 (reads_sl) Try.isAgg3 rfl (hrx) rfl) rfl rfl (gj_yes rfl rfl rfl (y_move rfl) rfl rfl (gj_yes rfl rfl rfl (y_move rfl) rfl rfl (gj_yes rfl rfl rfl (y_ixR (reads_sl) Try.underlying46 Try.sizeOf80 rfl rfl (⟨by omega, by omega⟩)) rfl rfl (gj_yes rfl rfl rfl (y_faE fa80_0 rfl) rfl rfl (gj_yes rfl rfl rfl (y_ld1 (reads_sl) Try.isAgg39 rfl (hx) rfl) rfl rfl (gj_yes rfl rfl rfl (y_move rfl) rfl rfl (gj_yes rfl rfl rfl (y_move rfl) rfl rfl (gj_yes rfl rfl rfl (y_ixR (reads_sl) Try.underlying37 Try.sizeOf3 rfl rfl (⟨by omega, by omega⟩)) rfl rfl (gj_yes rfl rfl rfl (y_ld0 (reads_sl) Try.isAgg3 rfl (hy) rfl) rfl rfl (gj_yes rfl rfl rfl (y_ixR (reads_sl) Try.underlying39 Try.sizeOf62 rfl rfl (⟨by omega, by omega⟩)) rfl rfl (gj_yes rfl rfl rfl (y_ldW (reads_sl) Try.isAgg62 Try.sizeOf62 rfl (hsx) (fun _ => rfl)) rfl rfl (gj_yes rfl rfl rfl (y_call Try.call78 rfl (fun w hp => by have h := k_rfinds m r s w ⟨htl.2 r (List.mem_of_getElem? hrx), (hmb m (List.mem_of_getElem? hmx)).1⟩; exact h)) rfl rfl (gj_nil rfl))))))))))))))))))))))))))) ?_
      refine gj_step (y_or rfl rfl rfl) rfl rfl rfl (gj_step (y_assign rfl) rfl rfl rfl (?_))
      refine gj_nil ?_
      refine ej_blk (ej_th ?_)
      refine cj_regionG (gj_step (y_move rfl) rfl rfl rfl (gj_step (y_add rfl rfl (by omega)) rfl rfl rfl (gj_step (y_assign rfl) rfl rfl rfl (gj_nil ?_))))
      exact ej_nx (j + 1, ok || fnd m r s) (by simp only; omega) ⟨by first | omega | (simp only; omega), by rw [Bool.or_assoc]; exact hsj⟩ ⟨rfl, rfl, rfl, rfl, rfl, rfl, rfl, trivial⟩
    · have h21b := h21
      try simp only [sxb] at h21
      rw [List.drop_of_length_le (show set.length ≤ j by omega), List.any_nil, Bool.or_false, hsr2] at hsj
      refine cj_exit (ej_then_exit (ej_then_exit (ej_blk_hit (ej_th (cj_seq ?_)))))
      refine cj_regionG (gj_step (y_move rfl) rfl rfl rfl (gj_step (y_not rfl) rfl rfl rfl (gj_nil ?_)))
      refine ej_th ?_
      refine cj_cond rfl (fun h54 => ?_) (fun h54 => ?_)
      · have h54b := h54
        try simp only [sxb] at h54
        refine cj_seq ?_
        refine cj_regionG (gj_step (y_assign rfl) rfl rfl rfl (gj_nil ?_))
        refine ej_th (cj_ret (ej_blk_ret (ej_then_ret (ej_then_ret (ej_blk_ret (ej_then_ret ?_))))))
        refine ej_ret1 rfl Try.results71 rfl (fun w' hp => ⟨?_, hp.below⟩)
        rw [← hsk, ← hsj, not_t h54b]; rfl
      · have h54b := h54
        try simp only [sxb] at h54
        refine cj_skip (ej_blk (ej_th ?_))
        refine cj_regionG (gj_step (y_move rfl) rfl rfl rfl (gj_step (y_add rfl rfl (by omega)) rfl rfl rfl (gj_step (y_assign rfl) rfl rfl rfl (gj_nil ?_))))
        exact ej_nx (k + 1) (by omega) ⟨by omega, by rw [← hsk, ← hsj, not_f h54b, Bool.true_and]⟩ ⟨rfl, rfl, rfl, rfl, rfl, trivial⟩
  · have h15b := h15
    try simp only [sxb] at h15
    refine cj_exit (ej_then_exit (ej_then_exit (ej_blk_hit (ej_th (cj_seq ?_)))))
    refine cj_regionG (gj_step (y_assign rfl) rfl rfl rfl (gj_nil ?_))
    refine ej_th (cj_ret ?_)
    refine ej_ret1 rfl Try.results71 rfl (fun w' hp => ⟨?_, hp.below⟩)
    rw [← hsk, List.drop_of_length_le (by omega)]; rfl

theorem k_rShows (ms : List Meas) (A : Option Addr) (c : Nat) (tk : List Int) (At : Option Addr) (ct : Nat) (fs : List FakeV) (Af : Option Addr) (cf : Nat) (set : List Int) (As : Option Addr) (cs : Nat) (w : World) (hm : Rd w 2 encMe A ms) (ht : Rd w 1 enInt At tk) (hf : Rd w 1 encFk Af fs) (hgf : ∀ f ∈ fs, GoodK w f) (hs : Rd w 1 enInt As set) : Calls Try.prog 48 #[.slice A ms.length c, .slice At tk.length ct, .slice Af fs.length cf, .slice As set.length cs] w (fun e w' => e = .returned (.tuple #[.bool (ShwB ms tk fs set), .int .i64 (ShwE ms tk fs set)]) ∧ Grow w w') := by
  have hls := hs.len
  have hlm := hm.len
  refine enter_pure (args := [.slice A ms.length c, .slice At tk.length ct, .slice Af fs.length cf, .slice As set.length cs]) [sl (fun b => b < w.heap.size) 2 encMe A ms, sl (fun b => b < w.heap.size) 1 enInt At tk, sl (fun b => b < w.heap.size) 1 encFk Af fs, sl (fun b => b < w.heap.size) 1 enInt As set] Try.func48 rfl (by rw [Try.ntmps48]; simp) (fun g hg => by simp at hg; rcases hg with rfl | rfl | rfl | rfl; exact ⟨hm, fun _ h => h⟩; exact ⟨ht, fun _ h => h⟩; exact ⟨hf, fun _ h => h⟩; exact ⟨hs, fun _ h => h⟩) ?_
  refine cj_seq ?_
  refine cj_regionG (gj_step (y_assign rfl) rfl rfl rfl (gj_step (y_assign rfl) rfl rfl rfl (gj_nil ?_)))
  refine ej_th (cj_seq (cj_seq ?_))
  refine cj_regionG ?_
  refine gj_step (y_move rfl) rfl rfl rfl (gj_step (y_move rfl) rfl rfl rfl (gj_step (y_move rfl) rfl rfl rfl (?_)))
  refine gj_step (y_call Try.call69 rfl (fun w hp => k_rasked ms A c tk At ct fs Af cf w hp.rd hp.rd hp.rd (fun f h => (hgf f h).mono hp.below))) rfl rfl rfl ?_
  refine gj_step (y_assign rfl) rfl rfl rfl (?_)
  refine gj_nil ?_
  refine ej_th (cj_seq ?_)
  refine cj_regionG (gj_step (y_move rfl) rfl rfl rfl (gj_step (y_neq rfl rfl) rfl rfl rfl (gj_nil ?_)))
  refine ej_th ?_
  refine cj_cond rfl (fun h17 => ?_) (fun h17 => ?_)
  · have h17b := h17
    try simp only [sxb] at h17
    have hno := skill_no h17b
    refine cj_seq ?_
    refine cj_regionG (gj_step (y_move rfl) rfl rfl rfl (gj_step (y_assign rfl) rfl rfl rfl (gj_step (y_assign rfl) rfl rfl rfl (gj_nil ?_))))
    refine ej_th (cj_ret (ej_then_ret ?_))
    obtain ⟨e1, e2⟩ := shw_no1 (set := set) hno
    exact ej_ret2 rfl Try.results48 rfl rfl (fun w' hp => ⟨by rw [e2, e1], hp.below⟩)
  · have h17b := h17
    try simp only [sxb] at h17
    obtain ⟨hmo, hto, hfo, hz⟩ := skill_0 h17b
    obtain ⟨hml, hmb⟩ := meas_bd hmo
    have htb := rdOk_bd hto
    obtain ⟨hfl, hfb⟩ := fakes_bd hfo
    refine cj_skip (ej_th (cj_seq (cj_seq ?_)))
    refine cj_regionG (gj_step (y_assign rfl) rfl rfl rfl (gj_nil ?_))
    refine ej_th (cj_block ?_)
    refine cj_lpic (X := Nat) [(0, _), (1, _), (2, _), (3, _)] (fun k => k ≤ set.length ∧ setF ms.length (set.drop k) (prevI set k) = setOk ms.length set) (fun k => [(11, .int .i64 k)]) (fun k => set.length - k) 0 (⟨Nat.zero_le _, rfl⟩) ⟨rfl, rfl, rfl, rfl, rfl, trivial⟩ ?_
    rintro k ⟨hk, hsk⟩
    dsimp only [List.cons_append, List.nil_append]
    refine cj_seq (cj_seq ?_)
    refine cj_regionG (gj_step (y_move rfl) rfl rfl rfl (gj_step (y_move rfl) rfl rfl rfl (gj_step (y_lenA Try.underlying37 rfl) rfl rfl rfl (gj_step (y_lss rfl rfl) rfl rfl rfl (gj_nil ?_)))))
    refine ej_th ?_
    refine cj_cond rfl (fun h22 => ?_) (fun h22 => ?_)
    · have h22b := h22
      try simp only [sxb] at h22
      obtain ⟨i, hx⟩ : ∃ i, set[k]? = some i := ⟨_, List.getElem?_eq_getElem (by omega)⟩
      rw [setF_drop ms.length set k i _ hx] at hsk
      have hq : prevI set k = if k = 0 then -1 else set.getD ((k : Int) - 1).toNat default := by
        unfold prevI
        rw [show ((k : Int) - 1).toNat = k - 1 by omega]
        rfl
      have hV := set_V ms.length i (set.getD ((k : Int) - 1).toNat default) k _ hq
      refine cj_skip (ej_th (cj_seq (cj_block (cj_seq ?_))))
      refine cj_draw (by kernel_rfl) (by kernel_rfl) ?_
      refine gj_step (y_move rfl) rfl rfl rfl (gj_step (y_move rfl) rfl rfl rfl (gj_step (y_ixR (reads_sl) Try.underlying37 Try.sizeOf3 rfl rfl (⟨by omega, by omega⟩)) rfl rfl rfl (gj_step (y_ld0 (reads_sl) Try.isAgg3 rfl (hx) rfl) rfl rfl rfl (gj_step (y_move rfl) rfl rfl rfl (gj_step (y_lenA Try.underlying35 rfl) rfl rfl rfl (gj_step (y_sub rfl rfl (by omega)) rfl rfl rfl (?_)))))))
      refine gj_step (y_call Try.call34 rfl (fun w hp => k_From _ _ _ w)) rfl rfl rfl ?_
      refine gj_step (y_not rfl) rfl rfl rfl (gj_step (y_move rfl) rfl rfl rfl (?_))
      refine gj_g 14 34 48 rfl rfl rfl rfl (fun hg34 => gj_yes rfl rfl rfl (y_move rfl) rfl rfl (gj_yes rfl rfl rfl (y_gtr rfl rfl) rfl rfl (gj_yes rfl rfl rfl (y_move rfl) rfl rfl (gj_g 10 37 47 rfl rfl rfl rfl (fun hg37 => gj_yes rfl rfl rfl (y_move rfl) rfl rfl (gj_yes rfl rfl rfl (y_move rfl) rfl rfl (gj_yes rfl rfl rfl (y_sub rfl rfl (by omega)) rfl rfl (gj_yes rfl rfl rfl (y_ixR (reads_sl) Try.underlying37 Try.sizeOf3 rfl rfl (⟨by have := hg37; simp only [sxb] at this; omega, by have := hg37; simp only [sxb] at this; omega⟩)) rfl rfl (gj_yes rfl rfl rfl (y_ld0 (reads_sl) Try.isAgg3 rfl (geq default (by have := hg37; simp only [sxb] at this; omega)) rfl) rfl rfl (gj_yes rfl rfl rfl (y_move rfl) rfl rfl (gj_yes rfl rfl rfl (y_move rfl) rfl rfl (gj_yes rfl rfl rfl (y_ixR (reads_sl) Try.underlying37 Try.sizeOf3 rfl rfl (⟨by omega, by omega⟩)) rfl rfl (gj_yes rfl rfl rfl (y_ld0 (reads_sl) Try.isAgg3 rfl (hx) rfl) rfl rfl (gj_yes rfl rfl rfl (y_geq rfl rfl) rfl rfl (gj_nil rfl))))))))))) (gj_yes rfl rfl rfl (y_and rfl rfl rfl) rfl rfl (gj_nil rfl)))))) ?_
      refine gj_step (y_or rfl rfl rfl) rfl rfl rfl (?_)
      refine gj_nil ?_
      refine ej_th ?_
      refine cj_cond rfl (fun h49 => ?_) (fun h49 => ?_)
      · have h49b := h49
        try simp only [sxb] at h49
        refine cj_seq ?_
        refine cj_regionG (gj_step (y_assign rfl) rfl rfl rfl (gj_step (y_assign rfl) rfl rfl rfl (gj_nil ?_)))
        refine ej_th (cj_ret (ej_blk_ret (ej_then_ret (ej_then_ret (ej_blk_ret (ej_then_ret ?_))))))
        obtain ⟨e1, e2⟩ := shw_no2 hz (show setOk ms.length set = false by rw [← hsk, not_t (hV.symm.trans h49b)]; rfl)
        exact ej_ret2 rfl Try.results48 rfl rfl (fun w' hp => ⟨by rw [e2, e1], hp.below⟩)
      · have h49b := h49
        try simp only [sxb] at h49
        refine cj_skip (ej_blk (ej_th ?_))
        refine cj_regionG (gj_step (y_move rfl) rfl rfl rfl (gj_step (y_add rfl rfl (by omega)) rfl rfl rfl (gj_step (y_assign rfl) rfl rfl rfl (gj_nil ?_))))
        exact ej_nx (k + 1) (by omega) ⟨by omega, by rw [← hsk, not_f (hV.symm.trans h49b), Bool.true_and, prevI_succ set k i hx]⟩ ⟨rfl, rfl, rfl, rfl, rfl, trivial⟩
    · have h22b := h22
      try simp only [sxb] at h22
      have hso : setOk ms.length set = true := by rw [← hsk, List.drop_of_length_le (by omega)]; rfl
      have hsr : ∀ i ∈ set, 0 ≤ i ∧ i < (ms.length : Int) := fun i hi => by have := setF_rng ms.length set (-1) hso i hi; omega
      refine cj_exit (ej_then_exit (ej_then_exit (ej_blk_hit (ej_th (cj_seq ?_)))))
      refine cj_regionG ?_
      refine gj_step (y_move rfl) rfl rfl rfl (gj_step (y_move rfl) rfl rfl rfl (gj_step (y_move rfl) rfl rfl rfl (gj_step (y_move rfl) rfl rfl rfl (?_))))
      refine gj_step (y_call Try.call71 rfl (fun w hp => k_rshows ms A c tk At ct fs Af cf set As cs w hp.rd hp.rd hp.rd (fun f h => (hgf f h).mono hp.below) hp.rd hsr hmb htb (fun f h => (hfb f h).1))) rfl rfl rfl ?_
      refine gj_step (y_assign rfl) rfl rfl rfl (gj_step (y_assign rfl) rfl rfl rfl (?_))
      refine gj_nil ?_
      refine ej_th (cj_ret ?_)
      obtain ⟨e1, e2⟩ := shw_yes hz hso
      exact ej_ret2 rfl Try.results48 rfl rfl (fun w' hp => ⟨by rw [e2, e1], hp.below⟩)

theorem k_rlabour (ms : List Meas) (A : Option Addr) (c : Nat) (set : List Int) (As : Option Addr) (cs : Nat) (w : World) (hm : Rd w 2 encMe A ms) (hs : Rd w 1 enInt As set) (hsr : ∀ i ∈ set, 0 ≤ i ∧ i < (ms.length : Int)) (hmb : ∀ m ∈ ms, (0 ≤ m.tol ∧ m.tol ≤ 1000) ∧ (1 ≤ m.lab ∧ m.lab ≤ 1000)) (h8 : set.length ≤ 100) : Calls Try.prog 72 #[.slice A ms.length c, .slice As set.length cs] w (fun e w' => e = .returned (.int .i64 (labN ms set)) ∧ Grow w w') := by
  refine enter_pure (args := [.slice A ms.length c, .slice As set.length cs]) [sl (fun b => b < w.heap.size) 2 encMe A ms, sl (fun b => b < w.heap.size) 1 enInt As set] Try.func72 rfl (by rw [Try.ntmps72]; simp) (fun g hg => by simp at hg; rcases hg with rfl | rfl; exact ⟨hm, fun _ h => h⟩; exact ⟨hs, fun _ h => h⟩) ?_
  refine cj_seq ?_
  refine cj_regionG (gj_step (y_assign rfl) rfl rfl rfl (gj_nil ?_))
  refine ej_th (cj_seq ?_)
  refine cj_regionG (gj_step (y_assign rfl) rfl rfl rfl (gj_nil ?_))
  refine ej_th (cj_seq (cj_seq ?_))
  refine cj_regionG (gj_step (y_assign rfl) rfl rfl rfl (gj_nil ?_))
  refine ej_th (cj_block ?_)
  refine cj_lpic (X := Nat × Int) [(0, _), (1, _), (4, _)] (fun ⟨k, n⟩ => k ≤ set.length ∧ 0 ≤ n ∧ n ≤ 1000 * k ∧ n + ((set.drop k).map (labAt ms)).sum = labN ms set) (fun ⟨k, n⟩ => [(5, .int .i64 n), (6, .int .i64 k)]) (fun ⟨k, n⟩ => set.length - k) (0, 0) (⟨Nat.zero_le _, Int.le_refl _, by simp, by show 0 + ((set.drop 0).map (labAt ms)).sum = _; rw [Int.zero_add]; rfl⟩) ⟨rfl, rfl, rfl, rfl, rfl, trivial⟩ ?_
  rintro ⟨k, n⟩ ⟨hk, hn0, hn1, hsk⟩
  dsimp only [List.cons_append, List.nil_append]
  refine cj_seq (cj_seq ?_)
  refine cj_regionG (gj_step (y_move rfl) rfl rfl rfl (gj_step (y_move rfl) rfl rfl rfl (gj_step (y_lenA Try.underlying37 rfl) rfl rfl rfl (gj_step (y_lss rfl rfl) rfl rfl rfl (gj_nil ?_)))))
  refine ej_th ?_
  refine cj_cond rfl (fun h10 => ?_) (fun h10 => ?_)
  · have h10b := h10
    try simp only [sxb] at h10
    obtain ⟨i, hx⟩ : ∃ i, set[k]? = some i := ⟨_, List.getElem?_eq_getElem (by omega)⟩
    have hir := hsr i (List.mem_of_getElem? hx)
    rw [map_sum_drop (labAt ms) set k i hx] at hsk
    refine cj_skip (ej_th (cj_seq (cj_block ?_)))
    refine cj_regionG (gj_step (y_move rfl) rfl rfl rfl (gj_step (y_move rfl) rfl rfl rfl (gj_step (y_move rfl) rfl rfl rfl (gj_step (y_move rfl) rfl rfl rfl (gj_step (y_ixR (reads_sl) Try.underlying37 Try.sizeOf3 rfl rfl (⟨by omega, by omega⟩)) rfl rfl rfl (gj_step (y_ld0 (reads_sl) Try.isAgg3 rfl (hx) rfl) rfl rfl rfl (gj_step (y_ixR (reads_sl) Try.underlying35 Try.sizeOf57 rfl rfl (⟨by omega, by omega⟩)) rfl rfl rfl (gj_step (y_faE fa57_1 rfl) rfl rfl rfl (gj_step (y_ld1 (reads_sl) Try.isAgg3 rfl (geq default (by omega)) rfl) rfl rfl rfl (gj_step (y_add rfl rfl (by have h9 : 1 ≤ (ms.getD i.toNat default).lab ∧ (ms.getD i.toNat default).lab ≤ 1000 := labAt_bd hmb hir; omega)) rfl rfl rfl (gj_step (y_assign rfl) rfl rfl rfl (gj_nil ?_))))))))))))
    refine ej_blk (ej_th ?_)
    refine cj_regionG (gj_step (y_move rfl) rfl rfl rfl (gj_step (y_add rfl rfl (by omega)) rfl rfl rfl (gj_step (y_assign rfl) rfl rfl rfl (gj_nil ?_))))
    have hlb := labAt_bd hmb hir
    exact ej_nx (k + 1, n + labAt ms i) (by simp only; omega) ⟨by first | omega | (simp only; omega), by simp only; omega, by simp only; omega, by simp only; omega⟩ ⟨rfl, rfl, rfl, rfl, rfl, trivial⟩
  · have h10b := h10
    try simp only [sxb] at h10
    refine cj_exit (ej_then_exit (ej_then_exit (ej_blk_hit (ej_th (cj_seq ?_)))))
    refine cj_regionG (gj_step (y_move rfl) rfl rfl rfl (gj_step (y_assign rfl) rfl rfl rfl (gj_nil ?_)))
    refine ej_th (cj_ret ?_)
    refine ej_ret1 rfl Try.results72 rfl (fun w' hp => ⟨?_, hp.below⟩)
    rw [List.drop_of_length_le (show set.length ≤ k by omega)] at hsk
    rw [← hsk]; simp

theorem k_Bit (n k : Nat) (w : World) (hk : k ≤ 64) : Calls Try.prog 105 #[.int .i64 n, .int .i64 k] w (fun e w' => e = .returned (.bool (((n / 2 ^ k : Nat) : Int) % 2 == 1)) ∧ Grow w w') := by
  refine enter_pure (args := [.int .i64 n, .int .i64 k]) [] Try.func105 rfl (by rw [Try.ntmps105]; simp) (by simp) ?_
  refine cj_seq ?_
  refine cj_regionG (gj_step (y_assign rfl) rfl rfl rfl (gj_nil ?_))
  refine ej_th (cj_seq ?_)
  refine cj_regionG (gj_step (y_move rfl) rfl rfl rfl (gj_step (y_move rfl) rfl rfl rfl (gj_step (y_shr rfl rfl hk) rfl rfl rfl (gj_step (y_rem rfl rfl (Int.natCast_nonneg _) (by omega)) rfl rfl rfl (gj_step (y_eql rfl rfl) rfl rfl rfl (gj_step (y_assign rfl) rfl rfl rfl (gj_nil ?_)))))))
  refine ej_th (cj_ret ?_)
  exact ej_ret1 rfl Try.results105 rfl (fun w' hp => ⟨rfl, hp.below⟩)

theorem k_rset (ms : List Meas) (A : Option Addr) (c : Nat) (n : Nat) (w : World) (hm : Rd w 2 encMe A ms) (hml : ms.length ≤ 8) : Calls Try.prog 70 #[.slice A ms.length c, .int .i64 n] w (fun e w' => ∃ A c, e = .returned (.slice A (selF n ms.length 0).length c) ∧ Grow w w' ∧ Res w w' 1 enInt A (selF n ms.length 0)) := by
  refine enter_pure (args := [.slice A ms.length c, .int .i64 n]) [sl (fun b => b < w.heap.size) 2 encMe A ms] Try.func70 rfl (by rw [Try.ntmps70]; simp) (fun g hg => by simp at hg; subst hg; exact ⟨hm, fun _ h => h⟩) ?_
  refine cj_seq ?_
  refine cj_regionG (gj_step (y_assign rfl) rfl rfl rfl (gj_nil ?_))
  refine ej_th (cj_seq ?_)
  refine cj_regionG (gj_step (y_assign rfl) rfl rfl rfl (gj_nil ?_))
  refine ej_th (cj_seq (cj_seq ?_))
  refine cj_regionG (gj_step (y_assign rfl) rfl rfl rfl (gj_nil ?_))
  refine ej_th (cj_block ?_)
  refine cj_ownNil 3 1 enInt ?_
  refine cj_lpi (X := Nat × Option Addr × Nat × List Int) [(0, _), (1, _), (4, _)] (fun ⟨k, A1, c1, own⟩ => k ≤ ms.length ∧ own.length ≤ k ∧ own ++ selF n (ms.length - k) k = selF n ms.length 0) (fun ⟨k, A1, c1, own⟩ => [(5, .slice A1 own.length c1), (6, .int .i64 k)]) (fun ⟨k, A1, c1, own⟩ => [ow 3 1 enInt A1 c1 own]) (fun ⟨k, A1, c1, own⟩ => [sl (fun b => b < w.heap.size) 2 encMe A ms]) (fun ⟨k, A1, c1, own⟩ => ms.length - k) (0, none, 0, []) (⟨Nat.zero_le _, Nat.zero_le _, rfl⟩) ⟨rfl, rfl, rfl, rfl, rfl, trivial⟩ ?_
  rintro ⟨k, A1, c1, own⟩ ⟨hk, hol, hso⟩
  dsimp only [List.cons_append, List.nil_append]
  refine cj_seq (cj_seq ?_)
  refine cj_regionG (gj_step (y_move rfl) rfl rfl rfl (gj_step (y_move rfl) rfl rfl rfl (gj_step (y_lenA Try.underlying35 rfl) rfl rfl rfl (gj_step (y_lss rfl rfl) rfl rfl rfl (gj_nil ?_)))))
  refine ej_th ?_
  refine cj_cond rfl (fun h10 => ?_) (fun h10 => ?_)
  · have h10b := h10
    try simp only [sxb] at h10
    rw [selF_step n ms.length k (by omega)] at hso
    refine cj_skip (ej_th (cj_seq (cj_block (cj_seq ?_))))
    refine cj_regionG ?_
    refine gj_step (y_move rfl) rfl rfl rfl (gj_step (y_move rfl) rfl rfl rfl (?_))
    refine gj_step (y_call Try.call105 rfl (fun w hp => k_Bit n k w (by omega))) rfl rfl rfl ?_
    refine gj_nil ?_
    refine ej_th ?_
    refine cj_cond rfl (fun h15 => ?_) (fun h15 => ?_)
    · have h15b := h15
      try simp only [sxb] at h15
      rw [bit_eq, decide_eq_true_eq] at h15b
      rw [if_pos h15b] at hso
      refine cj_region ?_
      refine oj_step (y_move rfl) rfl rfl rfl ?_
      refine oj_step (y_move rfl) rfl rfl rfl ?_
      refine oj_buildSlice [.int .i64 0] Try.underlying37 Try.sizeOf3 Try.zeroValue3 rfl rfl (by kernel_rfl) rfl rfl (fun b18 => ?_)
      refine oj_append  el37 (fun _ => rfl) enInt_one rfl rfl rfl (reads_lit [(k : Int)] (fun _ => rfl) rfl) (by simp [maxLen]; omega) (by simp; omega) rfl (fun A19 c19 => ?_)
      refine oj_step (y_assign rfl) rfl rfl rfl ?_
      refine oj_nil ?_
      refine ej_blk (ej_th ?_)
      refine cj_regionG (gj_step (y_move rfl) rfl rfl rfl (gj_step (y_add rfl rfl (by omega)) rfl rfl rfl (gj_step (y_assign rfl) rfl rfl rfl (gj_nil ?_))))
      exact ej_nx (k + 1, A19, c19, own ++ [(k : Int)]) (by simp only; omega) ⟨by first | omega | (simp only; omega), by simp only [List.length_append, List.length_cons, List.length_nil]; omega, by rw [List.append_assoc]; exact hso⟩ ⟨rfl, rfl, rfl, rfl, rfl, trivial⟩
    · have h15b := h15
      try simp only [sxb] at h15
      rw [bit_eq, decide_eq_false_iff_not] at h15b
      rw [if_neg h15b] at hso
      refine cj_skip (ej_blk (ej_th ?_))
      refine cj_regionG (gj_step (y_move rfl) rfl rfl rfl (gj_step (y_add rfl rfl (by omega)) rfl rfl rfl (gj_step (y_assign rfl) rfl rfl rfl (gj_nil ?_))))
      exact ej_nx (k + 1, A1, c1, own) (by simp only; omega) ⟨by first | omega | (simp only; omega), by simp only; omega, hso⟩ ⟨rfl, rfl, rfl, rfl, rfl, trivial⟩
  · have h10b := h10
    try simp only [sxb] at h10
    have hxe : own = selF n ms.length 0 := by rw [← hso, show ms.length - k = 0 by omega, selF, List.append_nil]
    refine cj_exit (ej_then_exit (ej_then_exit (ej_blk_hit (ej_th (cj_seq ?_)))))
    refine cj_regionG (gj_step (y_move rfl) rfl rfl rfl (gj_step (y_assign rfl) rfl rfl rfl (gj_nil ?_)))
    refine ej_th (cj_ret ?_)
    exact ej_ret1 rfl Try.results70 rfl (fun w' hp => ⟨A1, c1, by rw [← hxe], hp.below, by rw [← hxe]; exact hp.res (fun _ => rfl) (by unfold maxLen; omega)⟩)

theorem k_rAhead (x y : List Int) (Ax Ay : Option Addr) (cx cy : Nat) (w : World) (hx0 : Rd w 1 enInt Ax x) (hy0 : Rd w 1 enInt Ay y) : Calls Try.prog 73 #[.slice Ax x.length cx, .slice Ay y.length cy] w (fun e w' => e = .returned (.bool (aheadB x y)) ∧ Grow w w') := by
  have hlx := hx0.len
  have hly := hy0.len
  refine enter_pure (args := [.slice Ax x.length cx, .slice Ay y.length cy]) [sl (fun b => b < w.heap.size) 1 enInt Ax x, sl (fun b => b < w.heap.size) 1 enInt Ay y] Try.func73 rfl (by rw [Try.ntmps73]; simp) (fun g hg => by simp at hg; rcases hg with rfl | rfl; exact ⟨hx0, fun _ h => h⟩; exact ⟨hy0, fun _ h => h⟩) ?_
  refine cj_seq ?_
  refine cj_regionG (gj_step (y_assign rfl) rfl rfl rfl (gj_nil ?_))
  refine ej_th (cj_seq (cj_seq ?_))
  refine cj_regionG (gj_step (y_assign rfl) rfl rfl rfl (gj_nil ?_))
  refine ej_th (cj_block ?_)
  refine cj_lpic (X := Nat) [(0, _), (1, _)] (fun k => k ≤ x.length ∧ k ≤ y.length ∧ aheadB (x.drop k) (y.drop k) = aheadB x y) (fun k => [(5, .int .i64 k)]) (fun k => x.length - k) 0 (⟨Nat.zero_le _, Nat.zero_le _, rfl⟩) ⟨rfl, rfl, rfl, trivial⟩ ?_
  rintro k ⟨hk, hk2, hsk⟩
  dsimp only [List.cons_append, List.nil_append]
  refine cj_seq (cj_seq ?_)
  refine cj_regionG (gj_step (y_move rfl) rfl rfl rfl (gj_step (y_move rfl) rfl rfl rfl (gj_step (y_lenA Try.underlying37 rfl) rfl rfl rfl (gj_step (y_lss rfl rfl) rfl rfl rfl (gj_step (y_move rfl) rfl rfl rfl (gj_g 4 10 14 rfl rfl rfl rfl (fun hg10 => gj_yes rfl rfl rfl (y_move rfl) rfl rfl (gj_yes rfl rfl rfl (y_move rfl) rfl rfl (gj_yes rfl rfl rfl (y_lenA Try.underlying37 rfl) rfl rfl (gj_yes rfl rfl rfl (y_lss rfl rfl) rfl rfl (gj_nil rfl))))) (gj_step (y_and rfl rfl rfl) rfl rfl rfl (gj_nil ?_))))))))
  refine ej_th ?_
  refine cj_cond rfl (fun h15 => ?_) (fun h15 => ?_)
  · have h15b := h15
    try simp only [sxb] at h15
    rw [Bool.and_eq_true, decide_eq_true_eq, decide_eq_true_eq] at h15b
    obtain ⟨p, hx⟩ : ∃ p, x[k]? = some p := ⟨_, List.getElem?_eq_getElem (by omega)⟩
    obtain ⟨q, hy⟩ : ∃ q, y[k]? = some q := ⟨_, List.getElem?_eq_getElem (by omega)⟩
    rw [ahead_drop x y k p q hx hy] at hsk
    refine cj_skip (ej_th (cj_seq (cj_block (cj_seq ?_))))
    refine cj_draw (by kernel_rfl) (by kernel_rfl) (gj_step (y_move rfl) rfl rfl rfl (gj_step (y_move rfl) rfl rfl rfl (gj_step (y_ixR (reads_sl) Try.underlying37 Try.sizeOf3 rfl rfl (⟨by omega, by omega⟩)) rfl rfl rfl (gj_step (y_ld0 (reads_sl) Try.isAgg3 rfl (hx) rfl) rfl rfl rfl (gj_step (y_move rfl) rfl rfl rfl (gj_step (y_move rfl) rfl rfl rfl (gj_step (y_ixR (reads_sl) Try.underlying37 Try.sizeOf3 rfl rfl (⟨by omega, by omega⟩)) rfl rfl rfl (gj_step (y_ld0 (reads_sl) Try.isAgg3 rfl (hy) rfl) rfl rfl rfl (gj_step (y_neq rfl rfl) rfl rfl rfl (gj_nil ?_))))))))))
    refine ej_th ?_
    refine cj_cond rfl (fun h26 => ?_) (fun h26 => ?_)
    · have h26b := h26
      try simp only [sxb] at h26
      refine cj_seq ?_
      refine cj_draw (by kernel_rfl) (by kernel_rfl) (gj_step (y_move rfl) rfl rfl rfl (gj_step (y_move rfl) rfl rfl rfl (gj_step (y_ixR (reads_sl) Try.underlying37 Try.sizeOf3 rfl rfl (⟨by omega, by omega⟩)) rfl rfl rfl (gj_step (y_ld0 (reads_sl) Try.isAgg3 rfl (hx) rfl) rfl rfl rfl (gj_step (y_move rfl) rfl rfl rfl (gj_step (y_move rfl) rfl rfl rfl (gj_step (y_ixR (reads_sl) Try.underlying37 Try.sizeOf3 rfl rfl (⟨by omega, by omega⟩)) rfl rfl rfl (gj_step (y_ld0 (reads_sl) Try.isAgg3 rfl (hy) rfl) rfl rfl rfl (gj_step (y_lss rfl rfl) rfl rfl rfl (gj_step (y_assign rfl) rfl rfl rfl (gj_nil ?_)))))))))))
      refine ej_th (cj_ret (ej_blk_ret (ej_then_ret (ej_then_ret (ej_blk_ret (ej_then_ret ?_))))))
      refine ej_ret1 rfl Try.results73 rfl (fun w' hp => ⟨?_, hp.below⟩)
      rw [← hsk, if_neg (by simpa using h26b)]
    · have h26b := h26
      try simp only [sxb] at h26
      refine cj_skip (ej_blk (ej_th ?_))
      refine cj_regionG (gj_step (y_move rfl) rfl rfl rfl (gj_step (y_add rfl rfl (by omega)) rfl rfl rfl (gj_step (y_assign rfl) rfl rfl rfl (gj_nil ?_))))
      exact ej_nx (k + 1) (by omega) ⟨by omega, by omega, by rw [← hsk, if_pos (by simpa using h26b)]⟩ ⟨rfl, rfl, rfl, trivial⟩
  · have h15b := h15
    try simp only [sxb] at h15
    rw [Bool.and_eq_false_iff, decide_eq_false_iff_not, decide_eq_false_iff_not] at h15b
    refine cj_exit (ej_then_exit (ej_then_exit (ej_blk_hit (ej_th (cj_seq ?_)))))
    refine cj_regionG (gj_step (y_move rfl) rfl rfl rfl (gj_step (y_lenA Try.underlying37 rfl) rfl rfl rfl (gj_step (y_move rfl) rfl rfl rfl (gj_step (y_lenA Try.underlying37 rfl) rfl rfl rfl (gj_step (y_lss rfl rfl) rfl rfl rfl (gj_step (y_assign rfl) rfl rfl rfl (gj_nil ?_)))))))
    refine ej_th (cj_ret ?_)
    refine ej_ret1 rfl Try.results73 rfl (fun w' hp => ⟨?_, hp.below⟩)
    rw [← hsk, ahead_end x y k (by omega) hk hk2]

end Go.Proofs.Ytlfbghkcfmcnlaa
namespace Go.Proofs.Ytlfbghkcfmcnlaa
open Go.Sx Go.RowKit
set_option maxRecDepth 20000

end Go.Proofs.Ytlfbghkcfmcnlaa
namespace Go.Proofs.Ytlfbghkcfmcnlaa
open Go.Sx Go.RowKit
set_option maxRecDepth 20000
set_option maxHeartbeats 1000000 in
theorem k_rLeast (ms : List Meas) (A : Option Addr) (c : Nat) (tk : List Int) (At : Option Addr) (ct : Nat) (fs : List FakeV) (Af : Option Addr) (cf : Nat) (w : World) (hm : Rd w 2 encMe A ms) (ht : Rd w 1 enInt At tk) (hf : Rd w 1 encFk Af fs) (hgf : ∀ f ∈ fs, GoodK w f) : Calls Try.prog 27 #[.slice A ms.length c, .slice At tk.length ct, .slice Af fs.length cf] w (fun e w' => ∃ A c, e = .returned (.tuple #[.slice A (LstS ms tk fs).length c, .int .i64 (LstN ms tk fs), .int .i64 (LstE ms tk fs)]) ∧ Grow w w' ∧ Res w w' 1 enInt A (LstS ms tk fs)) := by
  have hlm := hm.len
  refine enter_pure (args := [.slice A ms.length c, .slice At tk.length ct, .slice Af fs.length cf]) [sl (fun b => b < w.heap.size) 2 encMe A ms, sl (fun b => b < w.heap.size) 1 enInt At tk, sl (fun b => b < w.heap.size) 1 encFk Af fs] Try.func27 rfl (by rw [Try.ntmps27]; simp) (fun g hg => by simp at hg; rcases hg with rfl | rfl | rfl; exact ⟨hm, fun _ h => h⟩; exact ⟨ht, fun _ h => h⟩; exact ⟨hf, fun _ h => h⟩) ?_
  refine cj_seq ?_
  refine cj_regionG (gj_step (y_assign rfl) rfl rfl rfl (gj_step (y_assign rfl) rfl rfl rfl (gj_step (y_assign rfl) rfl rfl rfl (gj_nil ?_))))
  refine ej_th (cj_seq (cj_seq ?_))
  refine cj_regionG ?_
  refine gj_step (y_move rfl) rfl rfl rfl (gj_step (y_move rfl) rfl rfl rfl (gj_step (y_move rfl) rfl rfl rfl (?_)))
  refine gj_step (y_call Try.call69 rfl (fun w hp => k_rasked ms A c tk At ct fs Af cf w hp.rd hp.rd hp.rd (fun f h => (hgf f h).mono hp.below))) rfl rfl rfl ?_
  refine gj_step (y_assign rfl) rfl rfl rfl (?_)
  refine gj_nil ?_
  refine ej_th (cj_seq ?_)
  refine cj_regionG (gj_step (y_move rfl) rfl rfl rfl (gj_step (y_neq rfl rfl) rfl rfl rfl (gj_nil ?_)))
  refine ej_th ?_
  refine cj_cond rfl (fun h19 => ?_) (fun h19 => ?_)
  · have h19b := h19
    try simp only [sxb] at h19
    have hno := skill_no h19b
    refine cj_seq ?_
    refine cj_regionG (gj_step (y_move rfl) rfl rfl rfl (gj_step (y_assign rfl) rfl rfl rfl (gj_step (y_assign rfl) rfl rfl rfl (gj_step (y_assign rfl) rfl rfl rfl (gj_nil ?_)))))
    refine ej_th (cj_ret (ej_then_ret ?_))
    obtain ⟨e1, e2, e3⟩ := lst_no1 hno
    exact ej_ret3 rfl Try.results27 rfl rfl rfl (fun w' hp => ⟨none, 0, by rw [e1, e2, e3]; rfl, hp.below, by rw [e2]; exact Res.nil⟩)
  · have h19b := h19
    try simp only [sxb] at h19
    obtain ⟨hmo, hto, hfo, hz⟩ := skill_0 h19b
    obtain ⟨hml, hmb⟩ := meas_bd hmo
    have htb := rdOk_bd hto
    obtain ⟨hfl, hfb⟩ := fakes_bd hfo
    have hlb : ∀ m ∈ ms, 1 ≤ m.lab ∧ m.lab ≤ 1000 := fun m h => (hmb m h).2
    have hpw : 2 ^ ms.length ≤ 2 ^ 8 := Nat.pow_le_pow_right (by decide) hml.2
    have hbest := best_ref ms tk fs hlb
    refine cj_skip (ej_th (cj_seq (cj_region ?_)))
    refine oj_step (y_move rfl) rfl rfl rfl ?_
    refine oj_step (y_move rfl) rfl rfl rfl ?_
    refine oj_step (y_lenA Try.underlying35 rfl) rfl rfl rfl ?_
    refine oj_step (y_shl1 rfl rfl (by omega)) rfl rfl rfl ?_
    refine oj_step (y_pred rfl rfl (Nat.one_le_two_pow) (by omega)) rfl rfl rfl ?_
    refine oj_callS (fun A c => .slice A (selF (2 ^ ms.length - 1) ms.length 0).length c) 1 enInt (selF (2 ^ ms.length - 1) ms.length 0) Try.call70 rfl (fun w hp => k_rset ms A c (2 ^ ms.length - 1) w hp.rd hml.2) rfl (fun A26 c26 fp26 hfp26 => ?_)
    refine oj_step (y_assign rfl) rfl rfl rfl ?_
    refine oj_nil ?_
    refine ej_th (cj_seq (cj_seq ?_))
    refine cj_regionG ?_
    refine gj_step (y_move rfl) rfl rfl rfl (gj_step (y_move rfl) rfl rfl rfl (gj_step (y_move rfl) rfl rfl rfl (gj_step (y_move rfl) rfl rfl rfl (?_))))
    refine gj_step (y_call Try.call71 rfl (fun w hp => k_rshows ms A c tk At ct fs Af cf (fullS ms) A26 c26 w hp.rd hp.rd hp.rd (fun f h => (hgf f h).mono hp.below) hp.rd (fun i hi => by have := selF_rng _ ms.length 0 i hi; omega) hmb htb (fun f h => (hfb f h).1))) rfl rfl rfl ?_
    refine gj_step (y_not rfl) rfl rfl rfl (?_)
    refine gj_nil ?_
    refine ej_th ?_
    refine cj_cond rfl (fun h32 => ?_) (fun h32 => ?_)
    · have h32b := h32
      try simp only [sxb] at h32
      have hfs := not_t h32b
      have hlt : (best ms tk fs).2 < 0 := by have h9 := hbest.1; rw [hfs] at h9; exact of_decide_eq_true h9
      refine cj_seq ?_
      refine cj_regionG (gj_step (y_assign rfl) rfl rfl rfl (gj_step (y_assign rfl) rfl rfl rfl (gj_step (y_assign rfl) rfl rfl rfl (gj_nil ?_))))
      refine ej_th (cj_ret (ej_then_ret ?_))
      obtain ⟨e1, e2, e3⟩ := lst_no2 hz hlt
      exact ej_ret3 rfl Try.results27 rfl rfl rfl (fun w' hp => ⟨none, 0, by rw [e1, e2, e3]; rfl, hp.below, by rw [e2]; exact Res.nil⟩)
    · have h32b := h32
      try simp only [sxb] at h32
      have hfs := not_f h32b
      have hlt : ¬ (best ms tk fs).2 < 0 := by have h9 := hbest.1; rw [hfs] at h9; exact of_decide_eq_false h9
      refine cj_skip (ej_th (cj_seq (cj_seq ?_)))
      refine cj_regionG (gj_step (y_assign rfl) rfl rfl rfl (gj_nil ?_))
      refine ej_th (cj_block ?_)
      refine cj_lpi (X := Nat × Option Addr × Nat × List Int × (Nat → Prop)) [(0, _), (1, _), (2, _), (6, _), (7, _), (8, _)] (fun ⟨n, A10, c10, best1, fp⟩ => n ≤ 2 ^ ms.length ∧ best1 = rbestN ms tk fs n ∧ (∀ b, fp b → w.heap.size ≤ b) ∧ (∀ i ∈ best1, 0 ≤ i ∧ i < (ms.length : Int)) ∧ best1.length ≤ 8) (fun ⟨n, A10, c10, best1, fp⟩ => [(10, .slice A10 best1.length c10), (11, .int .i64 n)]) (fun ⟨n, A10, c10, best1, fp⟩ => ([] : List Fact)) (fun ⟨n, A10, c10, best1, fp⟩ => [sl fp 1 enInt A10 best1, sl (fun b => b < w.heap.size) 2 encMe A ms, sl (fun b => b < w.heap.size) 1 enInt At tk, sl (fun b => b < w.heap.size) 1 encFk Af fs]) (fun ⟨n, A10, c10, best1, fp⟩ => 2 ^ ms.length - n) (0, A26, c26, fullS ms, fp26) (⟨Nat.zero_le _, rfl, hfp26, fun i hi => by have := selF_rng _ ms.length 0 i hi; omega, Nat.le_trans (selF_len _ _ _) hml.2⟩) ⟨rfl, rfl, rfl, rfl, rfl, rfl, rfl, rfl, trivial⟩ ?_
      rintro ⟨n, A10, c10, best1, fp⟩ ⟨hn, hst, hfp, hbr, hbl⟩
      dsimp only [List.cons_append, List.nil_append]
      refine cj_seq (cj_seq ?_)
      refine cj_regionG (gj_step (y_move rfl) rfl rfl rfl (gj_step (y_move rfl) rfl rfl rfl (gj_step (y_lenA Try.underlying35 rfl) rfl rfl rfl (gj_step (y_shl1 rfl rfl (by omega)) rfl rfl rfl (gj_step (y_lss rfl rfl) rfl rfl rfl (gj_nil ?_))))))
      refine ej_th ?_
      refine cj_cond rfl (fun h37 => ?_) (fun h37 => ?_)
      · have h37b := h37
        try simp only [sxb] at h37
        have hbs := rbestN_succ ms tk fs n
        rw [← hst, rstepL] at hbs
        refine cj_skip (ej_th (cj_seq (cj_block (cj_seq (cj_region ?_)))))
        refine oj_step (y_move rfl) rfl rfl rfl ?_
        refine oj_step (y_move rfl) rfl rfl rfl ?_
        refine oj_callS (fun A c => .slice A (selF (n) ms.length 0).length c) 1 enInt (selF (n) ms.length 0) Try.call70 rfl (fun w hp => k_rset ms A c (n) w hp.rd hml.2) rfl (fun A42 c42 fp42 hfp42 => ?_)
        refine oj_step (y_assign rfl) rfl rfl rfl ?_
        refine oj_nil ?_
        refine ej_th (cj_seq (cj_seq ?_))
        refine cj_regionG ?_
        refine gj_step (y_move rfl) rfl rfl rfl (gj_step (y_move rfl) rfl rfl rfl (gj_step (y_move rfl) rfl rfl rfl (gj_step (y_move rfl) rfl rfl rfl (?_))))
        refine gj_step (y_call Try.call71 rfl (fun w hp => k_rshows ms A c tk At ct fs Af cf (selF n ms.length 0) A42 c42 w hp.rd hp.rd hp.rd (fun f h => (hgf f h).mono hp.below) hp.rd (fun i hi => by have := selF_rng _ ms.length 0 i hi; omega) hmb htb (fun f h => (hfb f h).1))) rfl rfl rfl ?_
        refine gj_step (y_not rfl) rfl rfl rfl (?_)
        refine gj_nil ?_
        refine ej_th ?_
        refine cj_cond rfl (fun h48 => ?_) (fun h48 => ?_)
        · have h48b := h48
          try simp only [sxb] at h48
          rw [not_t h48b, Bool.false_and, if_neg (by simp)] at hbs
          refine cj_exit (ej_then_exit (ej_blk_hit (ej_th ?_)))
          refine cj_regionG (gj_step (y_move rfl) rfl rfl rfl (gj_step (y_add rfl rfl (by omega)) rfl rfl rfl (gj_step (y_assign rfl) rfl rfl rfl (gj_nil ?_))))
          exact ej_nx (n + 1, A10, c10, best1, fp) (by simp only; omega) ⟨by first | omega | (simp only; omega), hbs.symm, hfp, hbr, hbl⟩ ⟨rfl, rfl, rfl, rfl, rfl, rfl, rfl, rfl, trivial⟩
        · have h48b := h48
          try simp only [sxb] at h48
          rw [not_f h48b, Bool.true_and] at hbs
          refine cj_skip (ej_th (cj_seq ?_))
          refine cj_regionG ?_
          refine gj_step (y_move rfl) rfl rfl rfl (gj_step (y_move rfl) rfl rfl rfl (?_))
          refine gj_step (y_call Try.call72 rfl (fun w hp => k_rlabour ms A c (selF n ms.length 0) A42 c42 w hp.rd hp.rd (fun i hi => by have := selF_rng _ ms.length 0 i hi; omega) hmb (by have := selF_len n ms.length 0; omega))) rfl rfl rfl ?_
          refine gj_step (y_assign rfl) rfl rfl rfl (?_)
          refine gj_nil ?_
          refine ej_th (cj_seq ?_)
          refine cj_regionG ?_
          refine gj_step (y_move rfl) rfl rfl rfl (gj_step (y_move rfl) rfl rfl rfl (gj_step (y_move rfl) rfl rfl rfl (?_)))
          refine gj_step (y_call Try.call72 rfl (fun w hp => k_rlabour ms A c best1 A10 c10 w hp.rd hp.rd hbr hmb (by omega))) rfl rfl rfl ?_
          refine gj_step (y_lss rfl rfl) rfl rfl rfl (gj_step (y_move rfl) rfl rfl rfl (?_))
          refine gj_g 10 57 67 rfl rfl rfl rfl (fun hg57 => gj_yes rfl rfl rfl (y_move rfl) rfl rfl (gj_yes rfl rfl rfl (y_move rfl) rfl rfl (gj_yes rfl rfl rfl (y_move rfl) rfl rfl (gj_yes rfl rfl rfl (y_call Try.call72 rfl (fun w hp => k_rlabour ms A c best1 A10 c10 w hp.rd hp.rd hbr hmb (by omega))) rfl rfl (gj_yes rfl rfl rfl (y_eql rfl rfl) rfl rfl (gj_yes rfl rfl rfl (y_move rfl) rfl rfl (gj_g 3 63 66 rfl rfl rfl rfl (fun hg63 => gj_yes rfl rfl rfl (y_move rfl) rfl rfl (gj_yes rfl rfl rfl (y_move rfl) rfl rfl (gj_yes rfl rfl rfl (y_call Try.call73 rfl (fun w hp => k_rAhead (selF n ms.length 0) best1 A42 A10 c42 c10 w hp.rd hp.rd)) rfl rfl (gj_nil rfl)))) (gj_yes rfl rfl rfl (y_and rfl rfl rfl) rfl rfl (gj_nil rfl))))))))) ?_
          refine gj_step (y_or rfl rfl rfl) rfl rfl rfl (?_)
          refine gj_nil ?_
          refine ej_th ?_
          refine cj_cond rfl (fun h68 => ?_) (fun h68 => ?_)
          · have h68b := h68
            try simp only [sxb] at h68
            rw [show aheadB (selF n ms.length 0) best1 = decide (cmpL (selF n ms.length 0) best1 < 0) from rfl, ltB_V] at h68b
            rw [if_pos h68b] at hbs
            refine cj_regionG (gj_step (y_move rfl) rfl rfl rfl (gj_step (y_assign rfl) rfl rfl rfl (gj_nil ?_)))
            refine ej_blk (ej_th ?_)
            refine cj_regionG (gj_step (y_move rfl) rfl rfl rfl (gj_step (y_add rfl rfl (by omega)) rfl rfl rfl (gj_step (y_assign rfl) rfl rfl rfl (gj_nil ?_))))
            exact ej_nx (n + 1, A42, c42, selF n ms.length 0, fp42) (by simp only; omega) ⟨by first | omega | (simp only; omega), hbs.symm, hfp42, fun i hi => by have := selF_rng _ ms.length 0 i hi; omega, Nat.le_trans (selF_len _ _ _) hml.2⟩ ⟨rfl, rfl, rfl, rfl, rfl, rfl, rfl, rfl, trivial⟩
          · have h68b := h68
            try simp only [sxb] at h68
            rw [show aheadB (selF n ms.length 0) best1 = decide (cmpL (selF n ms.length 0) best1 < 0) from rfl, ltB_V] at h68b
            rw [if_neg (by rw [h68b]; simp)] at hbs
            refine cj_skip (ej_blk (ej_th ?_))
            refine cj_regionG (gj_step (y_move rfl) rfl rfl rfl (gj_step (y_add rfl rfl (by omega)) rfl rfl rfl (gj_step (y_assign rfl) rfl rfl rfl (gj_nil ?_))))
            exact ej_nx (n + 1, A10, c10, best1, fp) (by simp only; omega) ⟨by first | omega | (simp only; omega), hbs.symm, hfp, hbr, hbl⟩ ⟨rfl, rfl, rfl, rfl, rfl, rfl, rfl, rfl, trivial⟩
      · have h37b := h37
        try simp only [sxb] at h37
        have hbb : best1 = rbestN ms tk fs (2 ^ ms.length) := by rw [hst, show n = 2 ^ ms.length by omega]
        have hb2 := hbest.2 hfs
        rw [← hbb] at hb2
        refine cj_exit (ej_then_exit (ej_then_exit (ej_blk_hit (ej_th (cj_seq ?_)))))
        refine cj_regionG ?_
        refine gj_step (y_move rfl) rfl rfl rfl (gj_step (y_move rfl) rfl rfl rfl (gj_step (y_move rfl) rfl rfl rfl (?_)))
        refine gj_step (y_call Try.call72 rfl (fun w hp => k_rlabour ms A c best1 A10 c10 w hp.rd hp.rd hbr hmb (by omega))) rfl rfl rfl ?_
        refine gj_step (y_assign rfl) rfl rfl rfl (gj_step (y_assign rfl) rfl rfl rfl (gj_step (y_assign rfl) rfl rfl rfl (?_)))
        refine gj_nil ?_
        refine ej_th (cj_ret ?_)
        obtain ⟨e1, e2, e3⟩ := lst_yes hz hlt
        rw [hb2.1] at e2
        rw [hb2.2] at e3
        exact ej_ret3 rfl Try.results27 rfl rfl rfl (fun w' hp => ⟨A10, c10, by rw [e1, e2, e3], hp.below, by rw [e2]; exact hp.resS hfp⟩)

theorem k_Sum (l : List Int) (A : Option Addr) (c : Nat) (w : World) (hl : Rd w 1 enInt A l) (hp0 : ∀ x ∈ l, 0 ≤ x ∧ x ≤ 1000) (h8 : l.length ≤ 100) : Calls Try.prog 79 #[.slice A l.length c] w (fun e w' => e = .returned (.int .i64 l.sum) ∧ Grow w w') := by
  refine enter_pure (args := [.slice A l.length c]) [sl (fun b => b < w.heap.size) 1 enInt A l] Try.func79 rfl (by rw [Try.ntmps79]; simp) (fun g hg => by simp at hg; subst hg; exact ⟨hl, fun _ h => h⟩) ?_
  refine cj_seq ?_
  refine cj_regionG (gj_step (y_assign rfl) rfl rfl rfl (gj_nil ?_))
  refine ej_th (cj_seq ?_)
  refine cj_regionG (gj_step (y_assign rfl) rfl rfl rfl (gj_nil ?_))
  refine ej_th (cj_seq (cj_seq ?_))
  refine cj_regionG (gj_step (y_assign rfl) rfl rfl rfl (gj_nil ?_))
  refine ej_th (cj_block ?_)
  refine cj_lpic (X := Nat × Int) [(0, _), (2, _)] (fun ⟨k, n⟩ => k ≤ l.length ∧ 0 ≤ n ∧ n ≤ 1000 * k ∧ n + (l.drop k).sum = l.sum) (fun ⟨k, n⟩ => [(3, .int .i64 n), (4, .int .i64 k)]) (fun ⟨k, n⟩ => l.length - k) (0, 0) (⟨Nat.zero_le _, Int.le_refl _, by simp, by simp⟩) ⟨rfl, rfl, rfl, rfl, trivial⟩ ?_
  rintro ⟨k, n⟩ ⟨hk, hn0, hn1, hsk⟩
  dsimp only [List.cons_append, List.nil_append]
  refine cj_seq (cj_seq ?_)
  refine cj_regionG (gj_step (y_move rfl) rfl rfl rfl (gj_step (y_move rfl) rfl rfl rfl (gj_step (y_lenA Try.underlying37 rfl) rfl rfl rfl (gj_step (y_lss rfl rfl) rfl rfl rfl (gj_nil ?_)))))
  refine ej_th ?_
  refine cj_cond rfl (fun h8 => ?_) (fun h8 => ?_)
  · have h8b := h8
    try simp only [sxb] at h8
    obtain ⟨x, hx⟩ : ∃ x, l[k]? = some x := ⟨_, List.getElem?_eq_getElem (by omega)⟩
    rw [sum_drop l k x hx] at hsk
    have hx0 := hp0 x (List.mem_of_getElem? hx)
    refine cj_skip (ej_th (cj_seq (cj_block ?_)))
    refine cj_regionG (gj_step (y_move rfl) rfl rfl rfl (gj_step (y_move rfl) rfl rfl rfl (gj_step (y_move rfl) rfl rfl rfl (gj_step (y_ixR (reads_sl) Try.underlying37 Try.sizeOf3 rfl rfl (⟨by omega, by omega⟩)) rfl rfl rfl (gj_step (y_ld0 (reads_sl) Try.isAgg3 rfl (hx) rfl) rfl rfl rfl (gj_step (y_add rfl rfl (by omega)) rfl rfl rfl (gj_step (y_assign rfl) rfl rfl rfl (gj_nil ?_))))))))
    refine ej_blk (ej_th ?_)
    refine cj_regionG (gj_step (y_move rfl) rfl rfl rfl (gj_step (y_add rfl rfl (by omega)) rfl rfl rfl (gj_step (y_assign rfl) rfl rfl rfl (gj_nil ?_))))
    exact ej_nx (k + 1, n + x) (by simp only; omega) ⟨by first | omega | (simp only; omega), by simp only; omega, by simp only; omega, by simp only; omega⟩ ⟨rfl, rfl, rfl, rfl, trivial⟩
  · have h8b := h8
    try simp only [sxb] at h8
    refine cj_exit (ej_then_exit (ej_then_exit (ej_blk_hit (ej_th (cj_seq ?_)))))
    refine cj_regionG (gj_step (y_move rfl) rfl rfl rfl (gj_step (y_assign rfl) rfl rfl rfl (gj_nil ?_)))
    refine ej_th (cj_ret ?_)
    refine ej_ret1 rfl Try.results79 rfl (fun w' hp => ⟨?_, hp.below⟩)
    rw [List.drop_of_length_le (show l.length ≤ k by omega)] at hsk
    rw [← hsk]; simp

theorem k_rBound (ms : List Meas) (A : Option Addr) (c : Nat) (tk : List Int) (At : Option Addr) (ct : Nat) (fs : List FakeV) (Af : Option Addr) (cf : Nat) (ps : List Int) (Ap : Option Addr) (cp : Nat) (w : World) (hm : Rd w 2 encMe A ms) (ht : Rd w 1 enInt At tk) (hf : Rd w 1 encFk Af fs) (hgf : ∀ f ∈ fs, GoodK w f) (hps : Rd w 1 enInt Ap ps) : Calls Try.prog 30 #[.slice A ms.length c, .slice At tk.length ct, .slice Af fs.length cf, .slice Ap ps.length cp] w (fun e w' => e = .returned (.tuple #[.int .i64 (BndN ms tk fs ps), .int .i64 (BndE ms tk fs ps)]) ∧ Grow w w') := by
  have hlm := hm.len
  have hlp := hps.len
  have hlf := hf.len
  refine enter_pure (args := [.slice A ms.length c, .slice At tk.length ct, .slice Af fs.length cf, .slice Ap ps.length cp]) [sl (fun b => b < w.heap.size) 2 encMe A ms, sl (fun b => b < w.heap.size) 1 enInt At tk, sl (fun b => b < w.heap.size) 1 encFk Af fs, sl (fun b => b < w.heap.size) 1 enInt Ap ps] Try.func30 rfl (by rw [Try.ntmps30]; simp) (fun g hg => by simp at hg; rcases hg with rfl | rfl | rfl | rfl; exact ⟨hm, fun _ h => h⟩; exact ⟨ht, fun _ h => h⟩; exact ⟨hf, fun _ h => h⟩; exact ⟨hps, fun _ h => h⟩) ?_
  refine cj_seq ?_
  refine cj_regionG (gj_step (y_assign rfl) rfl rfl rfl (gj_step (y_assign rfl) rfl rfl rfl (gj_nil ?_)))
  refine ej_th (cj_seq (cj_seq ?_))
  refine cj_regionG ?_
  refine gj_step (y_move rfl) rfl rfl rfl (gj_step (y_move rfl) rfl rfl rfl (gj_step (y_move rfl) rfl rfl rfl (?_)))
  refine gj_step (y_call Try.call69 rfl (fun w hp => k_rasked ms A c tk At ct fs Af cf w hp.rd hp.rd hp.rd (fun f h => (hgf f h).mono hp.below))) rfl rfl rfl ?_
  refine gj_step (y_assign rfl) rfl rfl rfl (?_)
  refine gj_nil ?_
  refine ej_th (cj_seq ?_)
  refine cj_regionG (gj_step (y_move rfl) rfl rfl rfl (gj_step (y_neq rfl rfl) rfl rfl rfl (gj_nil ?_)))
  refine ej_th ?_
  refine cj_cond rfl (fun h21 => ?_) (fun h21 => ?_)
  · have h21b := h21
    try simp only [sxb] at h21
    have hno := skill_no h21b
    refine cj_seq ?_
    refine cj_regionG (gj_step (y_move rfl) rfl rfl rfl (gj_step (y_assign rfl) rfl rfl rfl (gj_step (y_assign rfl) rfl rfl rfl (gj_nil ?_))))
    refine ej_th (cj_ret (ej_then_ret ?_))
    obtain ⟨e1, e2⟩ := bnd_no1 (ps := ps) hno
    exact ej_ret2 rfl Try.results30 rfl rfl (fun w' hp => ⟨by rw [e1, e2], hp.below⟩)
  · have h21b := h21
    try simp only [sxb] at h21
    obtain ⟨hmo, hto, hfo, hz⟩ := skill_0 h21b
    obtain ⟨hml, hmb⟩ := meas_bd hmo
    have htb := rdOk_bd hto
    obtain ⟨hfl, hfb⟩ := fakes_bd hfo
    refine cj_skip (ej_th (cj_seq ?_))
    refine cj_regionG (gj_step (y_move rfl) rfl rfl rfl (gj_step (y_lenA Try.underlying37 rfl) rfl rfl rfl (gj_step (y_move rfl) rfl rfl rfl (gj_step (y_lenA Try.underlying46 rfl) rfl rfl rfl (gj_step (y_eql rfl rfl) rfl rfl rfl (gj_step (y_assign rfl) rfl rfl rfl (gj_nil ?_)))))))
    refine ej_th (cj_seq (cj_seq ?_))
    refine cj_regionG (gj_step (y_assign rfl) rfl rfl rfl (gj_nil ?_))
    refine ej_th (cj_block ?_)
    refine cj_lpic (X := Nat × Bool) [(0, _), (1, _), (2, _), (3, _), (8, _), (9, _)] (fun ⟨k, ok⟩ => k ≤ ps.length ∧ (ok && (ps.drop k).all prc1) = prOk fs ps) (fun ⟨k, ok⟩ => [(11, .bool ok), (12, .int .i64 k)]) (fun ⟨k, ok⟩ => ps.length - k) (0, (ps.length : Int) == (fs.length : Int)) (⟨Nat.zero_le _, rfl⟩) ⟨rfl, rfl, rfl, rfl, rfl, rfl, rfl, rfl, trivial⟩ ?_
    rintro ⟨k, ok⟩ ⟨hk, hsk⟩
    dsimp only [List.cons_append, List.nil_append]
    refine cj_seq (cj_seq ?_)
    refine cj_regionG (gj_step (y_move rfl) rfl rfl rfl (gj_step (y_move rfl) rfl rfl rfl (gj_step (y_lenA Try.underlying37 rfl) rfl rfl rfl (gj_step (y_lss rfl rfl) rfl rfl rfl (gj_nil ?_)))))
    refine ej_th ?_
    refine cj_cond rfl (fun h31 => ?_) (fun h31 => ?_)
    · have h31b := h31
      try simp only [sxb] at h31
      obtain ⟨p, hx⟩ : ∃ p, ps[k]? = some p := ⟨_, List.getElem?_eq_getElem (by omega)⟩
      rw [all_drop prc1 ps k p hx] at hsk
      refine cj_skip (ej_th (cj_seq (cj_block ?_)))
      refine cj_regionG ?_
      refine gj_step (y_move rfl) rfl rfl rfl (gj_step (y_move rfl) rfl rfl rfl (?_))
      refine gj_g 5 35 40 rfl rfl rfl rfl (fun hg35 => gj_yes rfl rfl rfl (y_move rfl) rfl rfl (gj_yes rfl rfl rfl (y_move rfl) rfl rfl (gj_yes rfl rfl rfl (y_ixR (reads_sl) Try.underlying37 Try.sizeOf3 rfl rfl (⟨by omega, by omega⟩)) rfl rfl (gj_yes rfl rfl rfl (y_ld0 (reads_sl) Try.isAgg3 rfl (hx) rfl) rfl rfl (gj_yes rfl rfl rfl (y_call Try.call34 rfl (fun w hp => k_From _ _ _ w)) rfl rfl (gj_nil rfl)))))) ?_
      refine gj_step (y_and rfl rfl rfl) rfl rfl rfl (gj_step (y_assign rfl) rfl rfl rfl (?_))
      refine gj_nil ?_
      refine ej_blk (ej_th ?_)
      refine cj_regionG (gj_step (y_move rfl) rfl rfl rfl (gj_step (y_add rfl rfl (by omega)) rfl rfl rfl (gj_step (y_assign rfl) rfl rfl rfl (gj_nil ?_))))
      exact ej_nx (k + 1, ok && (decide (0 ≤ p) && decide (p ≤ 1000))) (by simp only; omega) ⟨by first | omega | (simp only; omega), by rw [← hsk]; simp only [Bool.and_assoc, prc1, btw]⟩ ⟨rfl, rfl, rfl, rfl, rfl, rfl, rfl, rfl, trivial⟩
    · have h31b := h31
      try simp only [sxb] at h31
      rw [List.drop_of_length_le (show ps.length ≤ k by omega), List.all_nil, Bool.and_true] at hsk
      refine cj_exit (ej_then_exit (ej_then_exit (ej_blk_hit (ej_th (cj_seq (cj_seq ?_))))))
      refine cj_regionG (gj_step (y_assign rfl) rfl rfl rfl (gj_nil ?_))
      refine ej_th (cj_block ?_)
      refine cj_lpic (X := Nat × Bool) [(0, _), (1, _), (2, _), (3, _), (8, _), (9, _)] (fun ⟨k, ok⟩ => k ≤ ms.length ∧ (ok = true → prOk fs ps = true) ∧ (ok && bndA tk fs ps (ms.drop k) k) = (prOk fs ps && bndA tk fs ps ms 0)) (fun ⟨k, ok⟩ => [(11, .bool ok), (13, .int .i64 k)]) (fun ⟨k, ok⟩ => ms.length - k) (0, ok) (⟨Nat.zero_le _, fun h => by rw [← hsk]; exact h, by rw [← hsk]; rfl⟩) ⟨rfl, rfl, rfl, rfl, rfl, rfl, rfl, rfl, trivial⟩ ?_
      rintro ⟨k, ok⟩ ⟨hk, hok2, hsk⟩
      dsimp only [List.cons_append, List.nil_append]
      refine cj_seq (cj_seq ?_)
      refine cj_regionG (gj_step (y_move rfl) rfl rfl rfl (gj_step (y_move rfl) rfl rfl rfl (gj_g 4 43 47 rfl rfl rfl rfl (fun hg43 => gj_yes rfl rfl rfl (y_move rfl) rfl rfl (gj_yes rfl rfl rfl (y_move rfl) rfl rfl (gj_yes rfl rfl rfl (y_lenA Try.underlying35 rfl) rfl rfl (gj_yes rfl rfl rfl (y_lss rfl rfl) rfl rfl (gj_nil rfl))))) (gj_step (y_and rfl rfl rfl) rfl rfl rfl (gj_nil ?_)))))
      refine ej_th ?_
      refine cj_cond rfl (fun h48 => ?_) (fun h48 => ?_)
      · have h48b := h48
        try simp only [sxb] at h48
        rw [Bool.and_eq_true, decide_eq_true_eq] at h48b
        have hok := h48b.1
        have hpo := hok2 hok
        have hpp := Bool.and_eq_true_iff.1 hpo
        have hpl : ps.length = fs.length := by have := hpp.1; simp only [beq_iff_eq] at this; omega
        have hpb := prc_bd hpp.2
        obtain ⟨m, hx⟩ : ∃ m, ms[k]? = some m := ⟨_, List.getElem?_eq_getElem (by omega)⟩
        obtain ⟨r, hr⟩ : ∃ r, tk[k]? = some r := ⟨_, List.getElem?_eq_getElem (by omega)⟩
        have htg : tk.getD k 0 = r := by rw [List.getD_eq_getElem?_getD, hr]; rfl
        rw [bndA_drop tk fs ps ms k m hx, htg, hok, Bool.true_and] at hsk
        have hBb := bndF_bd m r k fs ps hpb
        refine cj_skip (ej_th (cj_seq (cj_block (cj_seq ?_))))
        refine cj_regionG (gj_step (y_assign rfl) rfl rfl rfl (gj_nil ?_))
        refine ej_th (cj_seq (cj_seq ?_))
        refine cj_regionG (gj_step (y_assign rfl) rfl rfl rfl (gj_nil ?_))
        refine ej_th (cj_block ?_)
        refine cj_lpic (X := Nat × Int) [(11, _), (13, _), (0, _), (1, _), (2, _), (3, _), (8, _), (9, _)] (fun ⟨j, n⟩ => j ≤ fs.length ∧ 0 ≤ n ∧ n + bndF m r k (fs.drop j) (ps.drop j) = bndF m r k fs ps) (fun ⟨j, n⟩ => [(14, .int .i64 n), (15, .int .i64 j)]) (fun ⟨j, n⟩ => fs.length - j) (0, 0) (⟨Nat.zero_le _, Int.le_refl _, by simp⟩) ⟨rfl, rfl, rfl, rfl, rfl, rfl, rfl, rfl, rfl, rfl, trivial⟩ ?_
        rintro ⟨j, n⟩ ⟨hj, hn0, hsj⟩
        dsimp only [List.cons_append, List.nil_append]
        refine cj_seq (cj_seq ?_)
        refine cj_regionG (gj_step (y_move rfl) rfl rfl rfl (gj_step (y_move rfl) rfl rfl rfl (gj_step (y_lenA Try.underlying46 rfl) rfl rfl rfl (gj_step (y_lss rfl rfl) rfl rfl rfl (gj_nil ?_)))))
        refine ej_th ?_
        refine cj_cond rfl (fun h54 => ?_) (fun h54 => ?_)
        · have h54b := h54
          try simp only [sxb] at h54
          obtain ⟨f, hy⟩ : ∃ f, fs[j]? = some f := ⟨_, List.getElem?_eq_getElem (by omega)⟩
          obtain ⟨p, hpj⟩ : ∃ p, ps[j]? = some p := ⟨_, List.getElem?_eq_getElem (by omega)⟩
          have hfl2 := (hfb f (List.mem_of_getElem? hy)).1
          obtain ⟨s, hs⟩ : ∃ s, f.has[k]? = some s := ⟨_, List.getElem?_eq_getElem (by omega)⟩
          have hsd : f.has.getD k default = s := by rw [List.getD_eq_getElem?_getD, hs]; rfl
          rw [bndF_drop m r k fs ps j f p hy hpj, hsd] at hsj
          have hpb1 := hpb p (List.mem_of_getElem? hpj)
          have hrest := (bndF_bd m r k (fs.drop (j + 1)) (ps.drop (j + 1)) (fun q hq => hpb q (List.mem_of_mem_drop hq))).1
          have hgr := hgf f (List.mem_of_getElem? hy)
          have hl2 := hgr.len
          refine cj_rd hgr (fun _ h => h) ?_
          refine cj_skip (ej_th (cj_seq (cj_block (cj_seq ?_))))
          refine cj_draw (by kernel_rfl) (by kernel_rfl) ?_
          refine gj_step (y_move rfl) rfl rfl rfl (gj_step (y_move rfl) rfl rfl rfl (gj_step (y_ixR (reads_sl) Try.underlying35 Try.sizeOf57 rfl rfl (⟨by omega, by omega⟩)) rfl rfl rfl (gj_step (y_ldW (reads_sl) Try.isAgg57 Try.sizeOf57 rfl (hx) (fun _ => rfl)) rfl rfl rfl (gj_step (y_move rfl) rfl rfl rfl (gj_step (y_move rfl) rfl rfl rfl (gj_step (y_ixR (reads_sl) Try.underlying37 Try.sizeOf3 rfl rfl (⟨by omega, by omega⟩)) rfl rfl rfl (gj_step (y_ld0 (reads_sl) Try.isAgg3 rfl (hr) rfl) rfl rfl rfl (gj_step (y_move rfl) rfl rfl rfl (gj_step (y_move rfl) rfl rfl rfl (gj_step (y_ixR (reads_sl) Try.underlying46 Try.sizeOf80 rfl rfl (⟨by omega, by omega⟩)) rfl rfl rfl (gj_step (y_faE fa80_0 rfl) rfl rfl rfl (gj_step (y_ld1 (reads_sl) Try.isAgg39 rfl (hy) rfl) rfl rfl rfl (gj_step (y_move rfl) rfl rfl rfl (gj_step (y_ixR (reads_sl) Try.underlying39 Try.sizeOf62 rfl rfl (⟨by omega, by omega⟩)) rfl rfl rfl (gj_step (y_ldW (reads_sl) Try.isAgg62 Try.sizeOf62 rfl (hs) (fun _ => rfl)) rfl rfl rfl (?_))))))))))))))))
          refine gj_step (y_call Try.call78 rfl (fun w hp => k_rfinds m r s w ⟨htb.2 r (List.mem_of_getElem? hr), (hmb m (List.mem_of_getElem? hx)).1⟩)) rfl rfl rfl ?_
          refine gj_nil ?_
          refine ej_th ?_
          refine cj_cond rfl (fun h73 => ?_) (fun h73 => ?_)
          · have h73b := h73
            try simp only [sxb] at h73
            rw [if_pos h73b] at hsj
            refine cj_regionG (gj_step (y_move rfl) rfl rfl rfl (gj_step (y_move rfl) rfl rfl rfl (gj_step (y_move rfl) rfl rfl rfl (gj_step (y_ixR (reads_sl) Try.underlying37 Try.sizeOf3 rfl rfl (⟨by omega, by omega⟩)) rfl rfl rfl (gj_step (y_ld0 (reads_sl) Try.isAgg3 rfl (hpj) rfl) rfl rfl rfl (gj_step (y_add rfl rfl (by omega)) rfl rfl rfl (gj_step (y_assign rfl) rfl rfl rfl (gj_nil ?_))))))))
            refine ej_blk (ej_th ?_)
            refine cj_regionG (gj_step (y_move rfl) rfl rfl rfl (gj_step (y_add rfl rfl (by omega)) rfl rfl rfl (gj_step (y_assign rfl) rfl rfl rfl (gj_nil ?_))))
            exact ej_nx (j + 1, n + p) (by simp only; omega) ⟨by first | omega | (simp only; omega), by simp only; omega, by simp only; omega⟩ ⟨rfl, rfl, rfl, rfl, rfl, rfl, rfl, rfl, rfl, rfl, trivial⟩
          · have h73b := h73
            try simp only [sxb] at h73
            rw [if_neg (by simp [h73b])] at hsj
            refine cj_skip (ej_blk (ej_th ?_))
            refine cj_regionG (gj_step (y_move rfl) rfl rfl rfl (gj_step (y_add rfl rfl (by omega)) rfl rfl rfl (gj_step (y_assign rfl) rfl rfl rfl (gj_nil ?_))))
            exact ej_nx (j + 1, n) (by simp only; omega) ⟨by first | omega | (simp only; omega), hn0, by simp only; omega⟩ ⟨rfl, rfl, rfl, rfl, rfl, rfl, rfl, rfl, rfl, rfl, trivial⟩
        · have h54b := h54
          try simp only [sxb] at h54
          rw [List.drop_of_length_le (show fs.length ≤ j by omega)] at hsj
          have hne : n = bndF m r k fs ps := by rw [← hsj]; simp [bndF]
          refine cj_exit (ej_then_exit (ej_then_exit (ej_blk_hit (ej_th ?_))))
          refine cj_regionG (gj_step (y_move rfl) rfl rfl rfl (gj_step (y_move rfl) rfl rfl rfl (gj_step (y_move rfl) rfl rfl rfl (gj_step (y_ixR (reads_sl) Try.underlying35 Try.sizeOf57 rfl rfl (⟨by omega, by omega⟩)) rfl rfl rfl (gj_step (y_faE fa57_1 rfl) rfl rfl rfl (gj_step (y_ld1 (reads_sl) Try.isAgg3 rfl (hx) rfl) rfl rfl rfl (gj_step (y_leq rfl rfl) rfl rfl rfl (gj_step (y_assign rfl) rfl rfl rfl (gj_nil ?_)))))))))
          refine ej_blk (ej_th ?_)
          refine cj_regionG (gj_step (y_move rfl) rfl rfl rfl (gj_step (y_add rfl rfl (by omega)) rfl rfl rfl (gj_step (y_assign rfl) rfl rfl rfl (gj_nil ?_))))
          exact ej_nx (k + 1, decide (n ≤ m.lab)) (by simp only; omega) ⟨by first | omega | (simp only; omega), fun _ => hpo, by rw [hne]; exact hsk⟩ ⟨rfl, rfl, rfl, rfl, rfl, rfl, rfl, rfl, trivial⟩
      · have h48b := h48
        try simp only [sxb] at h48
        rw [Bool.and_eq_false_iff, decide_eq_false_iff_not] at h48b
        refine cj_exit (ej_then_exit (ej_then_exit (ej_blk_hit (ej_th (cj_seq (cj_seq ?_))))))
        refine cj_regionG (gj_step (y_move rfl) rfl rfl rfl (gj_step (y_not rfl) rfl rfl rfl (gj_nil ?_)))
        refine ej_th ?_
        refine cj_cond rfl (fun h88 => ?_) (fun h88 => ?_)
        · have h88b := h88
          try simp only [sxb] at h88
          have hbad : (prOk fs ps && bndA tk fs ps ms 0) = false := by rw [← hsk, not_t h88b]; rfl
          refine cj_seq ?_
          refine cj_regionG (gj_step (y_assign rfl) rfl rfl rfl (gj_step (y_assign rfl) rfl rfl rfl (gj_nil ?_)))
          refine ej_th (cj_ret (ej_then_ret ?_))
          obtain ⟨e1, e2⟩ := bnd_no2 (ps := ps) hz hbad
          exact ej_ret2 rfl Try.results30 rfl rfl (fun w' hp => ⟨by rw [e1, e2], hp.below⟩)
        · have h88b := h88
          try simp only [sxb] at h88
          have hok : ok = true := not_f h88b
          have hpo := hok2 hok
          have hpp := Bool.and_eq_true_iff.1 hpo
          have hpl : ps.length = fs.length := by have := hpp.1; simp only [beq_iff_eq] at this; omega
          have hpb := prc_bd hpp.2
          have hgood : (prOk fs ps && bndA tk fs ps ms 0) = true := by
            have hk2 : ms.length ≤ k := by rcases h48b with h | h; rw [hok] at h; cases h; omega
            rw [← hsk, hok, List.drop_of_length_le hk2]; rfl
          refine cj_skip (ej_th (cj_seq ?_))
          refine cj_regionG ?_
          refine gj_step (y_move rfl) rfl rfl rfl (?_)
          refine gj_step (y_call Try.call79 rfl (fun w hp => k_Sum ps Ap cp w hp.rd hpb (by omega))) rfl rfl rfl ?_
          refine gj_step (y_assign rfl) rfl rfl rfl (gj_step (y_assign rfl) rfl rfl rfl (?_))
          refine gj_nil ?_
          refine ej_th (cj_ret ?_)
          obtain ⟨e1, e2⟩ := bnd_yes (ps := ps) hz hgood
          exact ej_ret2 rfl Try.results30 rfl rfl (fun w' hp => ⟨by rw [e1, e2], hp.below⟩)

end Go.Proofs.Ytlfbghkcfmcnlaa
namespace Go.Proofs.Ytlfbghkcfmcnlaa
open Go.Sx Go.RowKit

theorem selF_ok (bits N : Nat) : ∀ (n k : Nat) (p : Int), k + n ≤ N → p < k → setF (N : Int) (selF bits n k) p = true
  | 0, _, _, _, _ => rfl
  | n + 1, k, p, h, hp => by
    rw [selF]
    split
    · rw [setF, selF_ok bits N n (k + 1) k (by omega) (by omega), Bool.and_true, btw, decide_eq_true (show (0 : Int) ≤ k by omega), decide_eq_true (show (k : Int) ≤ (N : Int) - 1 by omega), decide_eq_true hp]; rfl
    · exact selF_ok bits N n (k + 1) p (by omega) (by omega)
theorem sel_setOk (bits n : Nat) : setOk n (selF bits n 0) = true := selF_ok bits n n 0 (-1) (by omega) (by omega)
theorem selF_up (b b' : Nat) : ∀ (n k : Nat), (∀ j, k ≤ j → b / 2 ^ j = b' / 2 ^ j) → selF b n k = selF b' n k
  | 0, _, _ => rfl
  | n + 1, k, h => by rw [selF, selF, h k (Nat.le_refl _), selF_up b b' n (k + 1) (fun j hj => h j (by omega))]
theorem set_bits (N : Nat) : ∀ (n k : Nat) (l : List Int) (p : Int), k + n = N → setF (N : Int) l p = true → (k : Int) - 1 ≤ p → ∃ q, q < 2 ^ n ∧ selF (2 ^ k * q) n k = l
  | 0, k, l, p, hN, h, hp => by
    cases l with
    | nil => exact ⟨0, by decide, rfl⟩
    | cons i l =>
      simp only [setF, btw, Bool.and_eq_true, decide_eq_true_eq] at h
      omega
  | n + 1, k, l, p, hN, h, hp => by
    have hpw : 0 < 2 ^ k := Nat.pow_pos (by decide)
    by_cases hk : ∃ r, l = (k : Int) :: r
    · obtain ⟨r, rfl⟩ := hk
      simp only [setF, btw, Bool.and_eq_true, decide_eq_true_eq] at h
      obtain ⟨q, hq, hs⟩ := set_bits N n (k + 1) r k (by omega) h.2 (by omega)
      refine ⟨2 * q + 1, by rw [Nat.pow_succ]; omega, ?_⟩
      have e0 : 2 ^ k * (2 * q + 1) / 2 ^ k = 2 * q + 1 := Nat.mul_div_cancel_left _ hpw
      rw [selF, e0, if_pos (by omega)]
      congr 1
      rw [← hs]
      refine selF_up _ _ n (k + 1) (fun j hj => ?_)
      obtain ⟨d, rfl⟩ : ∃ d, j = k + 1 + d := ⟨j - (k + 1), by omega⟩
      rw [Nat.pow_add 2 (k + 1) d, ← Nat.div_div_eq_div_mul, ← Nat.div_div_eq_div_mul, Nat.pow_succ, Nat.mul_assoc, Nat.mul_div_mul_left _ _ hpw, Nat.mul_div_mul_left _ _ hpw]
      congr 1
      omega
    · have h2 : setF (N : Int) l k = true := by
        cases l with
        | nil => rfl
        | cons i r =>
          simp only [setF, btw, Bool.and_eq_true, decide_eq_true_eq] at h ⊢
          refine ⟨⟨h.1.1, ?_⟩, h.2⟩
          have h3 : ¬ i = (k : Int) := fun e => hk ⟨r, by rw [e]⟩
          omega
      obtain ⟨q, hq, hs⟩ := set_bits N n (k + 1) l k (by omega) h2 (by omega)
      refine ⟨2 * q, by rw [Nat.pow_succ]; omega, ?_⟩
      have e0 : 2 ^ k * (2 * q) / 2 ^ k = 2 * q := Nat.mul_div_cancel_left _ hpw
      have e1 : 2 ^ k * (2 * q) = 2 ^ (k + 1) * q := by rw [Nat.pow_succ, Nat.mul_assoc]
      rw [selF, e0, if_neg (by omega), e1, hs]
theorem set_sel {n : Nat} {set : List Int} (h : setOk n set = true) : ∃ b, b < 2 ^ n ∧ selF b n 0 = set := by
  obtain ⟨q, h1, h2⟩ := set_bits n n 0 set (-1) (by omega) h (by omega)
  exact ⟨q, h1, by rw [Nat.pow_zero, Nat.one_mul] at h2; exact h2⟩
theorem bestN_sel (ms : List Meas) (tk : List Int) (fs : List FakeV) : ∀ n, 0 ≤ (bestN ms tk fs n).2 → ∃ b, (bestN ms tk fs n).1 = selF b ms.length 0
  | 0, h => absurd (show (0 : Int) ≤ -1 from h) (by decide)
  | n + 1, h => by
    rw [bestN_succ] at h ⊢
    unfold stepL at h ⊢
    split at h
    · rename_i hs
      rw [if_pos hs]
      split at h
      · rename_i hc
        rw [if_pos hc]; exact ⟨n, rfl⟩
      · rename_i hc
        rw [if_neg hc]; exact bestN_sel ms tk fs n h
    · rename_i hs
      rw [if_neg hs]; exact bestN_sel ms tk fs n h
/-- what the least set is -/
structure LeastIs (ms : List Meas) (tk : List Int) (fs : List FakeV) : Prop where
  ok : setOk ms.length (LstS ms tk fs) = true
  sh : shwB ms tk fs (LstS ms tk fs) = true
  lab : LstN ms tk fs = labN ms (LstS ms tk fs)
  least : ∀ set, setOk ms.length set = true → shwB ms tk fs set = true → LstN ms tk fs ≤ labN ms set
theorem lst_0 {ms : List Meas} {tk : List Int} {fs : List FakeV} (h : LstE ms tk fs = 0) : skillE ms tk fs = 0 ∧ ¬ (best ms tk fs).2 < 0 := by
  unfold LstE at h
  split at h
  · rename_i h1
    split at h
    · cases h
    · rename_i h2; exact ⟨h1, h2⟩
  · rename_i h1; exact absurd h h1
theorem leastIs {ms : List Meas} {tk : List Int} {fs : List FakeV} (h : LstE ms tk fs = 0) : LeastIs ms tk fs := by
  obtain ⟨h0, h1⟩ := lst_0 h
  obtain ⟨_, e2, e3⟩ := lst_yes h0 h1
  obtain ⟨hmo, hto, hfo, _⟩ := skill_0 (ms := ms) (tk := tk) (fs := fs) (by rw [h0]; rfl)
  obtain ⟨_, hmb⟩ := meas_bd hmo
  have hP := stP ms tk fs (fun m hm => (hmb m hm).2) (2 ^ ms.length)
  have h2 : 0 ≤ (best ms tk fs).2 := by omega
  obtain ⟨b, hb⟩ := bestN_sel ms tk fs (2 ^ ms.length) h2
  rw [show bestN ms tk fs (2 ^ ms.length) = best ms tk fs from rfl] at hb hP
  refine ⟨by rw [e2, hb]; exact sel_setOk b ms.length, by rw [e2]; exact hP.sh h2, by rw [e3, e2]; exact hP.lab h2, ?_⟩
  intro set hs1 hs2
  obtain ⟨q, hq, rfl⟩ := set_sel hs1
  have h3 := (hP.mi q hq hs2).2
  rw [e3, hP.lab h2]
  unfold ltB at h3
  omega
theorem lst_none {ms : List Meas} {tk : List Int} {fs : List FakeV} (h : LstE ms tk fs = 4) {set : List Int} (hs : setOk ms.length set = true) : shwB ms tk fs set = false := by
  have h0 : skillE ms tk fs = 0 ∧ (best ms tk fs).2 < 0 := by
    unfold LstE at h
    split at h
    · rename_i h1
      split at h
      · rename_i h2; exact ⟨h1, h2⟩
      · cases h
    · unfold skillE at h
      split at h
      · split at h
        · split at h <;> cases h
        · cases h
      · cases h
  obtain ⟨hmo, _, _, _⟩ := skill_0 (ms := ms) (tk := tk) (fs := fs) (by rw [h0.1]; rfl)
  obtain ⟨_, hmb⟩ := meas_bd hmo
  have hP := stP ms tk fs (fun m hm => (hmb m hm).2) (2 ^ ms.length)
  obtain ⟨q, hq, rfl⟩ := set_sel hs
  cases hb : shwB ms tk fs (selF q ms.length 0) with
  | false => rfl
  | true =>
    have := (hP.mi q hq hb).1
    rw [show bestN ms tk fs (2 ^ ms.length) = best ms tk fs from rfl] at this
    omega
theorem shw_0 {ms : List Meas} {tk : List Int} {fs : List FakeV} {set : List Int} (h : ShwE ms tk fs set = 0) : skillE ms tk fs = 0 ∧ setOk ms.length set = true ∧ ShwB ms tk fs set = shwB ms tk fs set := by
  unfold ShwE at h
  split at h
  · rename_i h1
    split at h
    · rename_i h2; exact ⟨h1, h2, (shw_yes h1 h2).2⟩
    · cases h
  · rename_i h1; exact absurd h h1
theorem lst_not {ms : List Meas} {tk : List Int} {fs : List FakeV} {set : List Int} (h : ¬ LstE ms tk fs = 0) : LstS ms tk fs = [] ∧ LstN ms tk fs = 0 ∧ (LstE ms tk fs = 4 → ShwB ms tk fs set = false) := by
  refine ⟨by rw [LstS, if_neg h], by rw [LstN, if_neg h], fun h4 => ?_⟩
  by_cases hs : ShwE ms tk fs set = 0
  · obtain ⟨_, h2, h3⟩ := shw_0 hs
    rw [h3]; exact lst_none h4 h2
  · rw [ShwB, show (ShwE ms tk fs set == 0) = false by simpa using hs]; rfl
theorem lst_shows {ms : List Meas} {tk : List Int} {fs : List FakeV} (h : LstE ms tk fs = 0) : ShwE ms tk fs (LstS ms tk fs) = 0 ∧ ShwB ms tk fs (LstS ms tk fs) = true := by
  have h1 := leastIs h
  obtain ⟨e1, e2⟩ := shw_yes (lst_0 h).1 h1.ok
  exact ⟨e1, by rw [e2]; exact h1.sh⟩
/-! ### Duality -/
theorem bndA_at (tk : List Int) (fs : List FakeV) (ps : List Int) : ∀ (ms : List Meas) (k : Nat), bndA tk fs ps ms k = true → ∀ i, i < ms.length → bndF (ms.getD i default) (tk.getD (k + i) 0) (k + i) fs ps ≤ (ms.getD i default).lab
  | [], _, _, i, hi => by simp at hi
  | m :: ms, k, h, i, hi => by
    simp only [bndA, Bool.and_eq_true, decide_eq_true_eq] at h
    cases i with
    | zero => simpa using h.1
    | succ i =>
      have := bndA_at tk fs ps ms (k + 1) h.2 i (by simpa using hi)
      rw [List.getD_cons_succ, show k + (i + 1) = k + 1 + i by omega]; exact this
def bndS (ms : List Meas) (tk : List Int) (fs : List FakeV) (ps : List Int) (set : List Int) : Int := (set.map (fun i => bndF (ms.getD i.toNat default) (tk.getD i.toNat 0) i.toNat fs ps)).sum
theorem bndS_nil (ms : List Meas) (tk : List Int) (ps : List Int) (set : List Int) : bndS ms tk [] ps set = 0 := by
  unfold bndS
  induction set with
  | nil => rfl
  | cons i l ih => rw [List.map_cons, List.sum_cons, ih]; simp [bndF]
theorem bndS_cons (ms : List Meas) (tk : List Int) (f : FakeV) (fs : List FakeV) (p : Int) (ps : List Int) (set : List Int) :
    bndS ms tk (f :: fs) (p :: ps) set = (set.map (fun i => if fndA ms tk f i = true then p else 0)).sum + bndS ms tk fs ps set := by
  unfold bndS
  induction set with
  | nil => rfl
  | cons i l ih =>
    rw [List.map_cons, List.sum_cons, List.map_cons, List.sum_cons, List.map_cons, List.sum_cons, ih, bndF]
    unfold fndA
    rw [show (tk.getD i.toNat default) = tk.getD i.toNat 0 from rfl]
    omega
theorem sum_one (p : Int) (hp : 0 ≤ p) (q : Int → Bool) : ∀ l : List Int, l.any q = true → p ≤ (l.map (fun i => if q i = true then p else 0)).sum
  | [], h => by simp at h
  | i :: l, h => by
    rw [List.map_cons, List.sum_cons]
    have hn : 0 ≤ (l.map (fun i => if q i = true then p else 0)).sum := sum_nn (fun i => if q i = true then p else 0) l (fun x _ => by split <;> omega)
    by_cases h1 : q i = true
    · rw [if_pos h1]; omega
    · rw [if_neg h1]
      rw [List.any_cons, Bool.or_eq_true] at h
      have := sum_one p hp q l (h.resolve_left h1)
      omega
theorem dual (ms : List Meas) (tk : List Int) (set : List Int) (h1 : tk.length = ms.length) (hs : ∀ i ∈ set, 0 ≤ i ∧ i < ms.length) : ∀ (fs : List FakeV) (ps : List Int), ps.length = fs.length → (∀ p ∈ ps, 0 ≤ p) → (∀ f ∈ fs, f.has.length = ms.length) → shwB ms tk fs set = true → ps.sum ≤ bndS ms tk fs ps set
  | [], [], _, _, _, _ => by rw [bndS_nil]; simp
  | [], _ :: _, h, _, _, _ => by simp at h
  | _ :: _, [], h, _, _, _ => by simp at h
  | f :: fs, p :: ps, h, hp, hf, hsh => by
    unfold shwB at hsh
    rw [List.all_cons, Bool.and_eq_true] at hsh
    have ih := dual ms tk set h1 hs fs ps (by simpa using h) (fun q hq => hp q (List.mem_cons_of_mem _ hq)) (fun g hg => hf g (List.mem_cons_of_mem _ hg)) hsh.2
    have h2 := shwF_ref h1 (hf f (List.mem_cons_self ..)) hs
    rw [hsh.1] at h2
    have h3 := sum_one p (hp p (List.mem_cons_self ..)) (fndA ms tk f) set h2
    rw [bndS_cons, List.sum_cons]; omega
theorem bndS_le {ms : List Meas} {tk : List Int} {fs : List FakeV} {ps : List Int} (h : bndA tk fs ps ms 0 = true) (set : List Int) (hs : ∀ i ∈ set, 0 ≤ i ∧ i < ms.length) : bndS ms tk fs ps set ≤ labN ms set := by
  unfold bndS labN
  induction set with
  | nil => simp
  | cons i l ih =>
    have h1 := ih (fun j hj => hs j (List.mem_cons_of_mem _ hj))
    have h2 := hs i (List.mem_cons_self ..)
    have h3 := bndA_at tk fs ps ms 0 h i.toNat (by omega)
    rw [Nat.zero_add] at h3
    rw [List.map_cons, List.sum_cons, List.map_cons, List.sum_cons]; omega
theorem bound_le {ms : List Meas} {tk : List Int} {fs : List FakeV} {ps : List Int} (h : LstE ms tk fs = 0) (hb : BndE ms tk fs ps = 0) : BndN ms tk fs ps ≤ LstN ms tk fs := by
  have hL := leastIs h
  have h0 := (lst_0 h).1
  obtain ⟨hmo, hto, hfo, _⟩ := skill_0 (ms := ms) (tk := tk) (fs := fs) (by rw [h0]; rfl)
  have htb := rdOk_bd hto
  have hfb := fakes_bd hfo
  have hg : (prOk fs ps && bndA tk fs ps ms 0) = true := by
    unfold BndE at hb
    rw [if_pos h0] at hb
    split at hb
    · assumption
    · cases hb
  obtain ⟨_, e2⟩ := bnd_yes h0 hg
  rw [Bool.and_eq_true] at hg
  have hpp := Bool.and_eq_true_iff.1 hg.1
  have hpl : ps.length = fs.length := by have := hpp.1; simp only [beq_iff_eq] at this; omega
  have hr : ∀ i ∈ LstS ms tk fs, 0 ≤ i ∧ i < (ms.length : Int) := fun i hi => by have := setF_rng ms.length _ (-1) hL.ok i hi; omega
  have h1 := dual ms tk _ htb.1 hr fs ps hpl (fun p hp => (prc_bd hpp.2 p hp).1) (fun f hf => (hfb.2 f hf).1) hL.sh
  have h2 := bndS_le hg.2 _ hr
  rw [e2, hL.lab]; omega
theorem least_few {ms : List Meas} {tk : List Int} {f : FakeV} {fs : List FakeV} (h : LstE ms tk (f :: fs) = 0) : LstE ms tk fs = 0 ∧ LstN ms tk fs ≤ LstN ms tk (f :: fs) := by
  have hL := leastIs h
  have h0 := (lst_0 h).1
  obtain ⟨hmo, hto, hfo, _⟩ := skill_0 (ms := ms) (tk := tk) (fs := f :: fs) (by rw [h0]; rfl)
  have hfo2 : fakesOk ms.length fs = true := by
    simp only [fakesOk, Bool.and_eq_true, decide_eq_true_eq, List.all_cons, List.length_cons] at hfo ⊢
    exact ⟨by omega, hfo.2.2⟩
  have h1 : skillE ms tk fs = 0 := by rw [skillE, hmo, hto, hfo2]; rfl
  have hsh : shwB ms tk fs (LstS ms tk (f :: fs)) = true := by
    have := hL.sh
    unfold shwB at this ⊢
    rw [List.all_cons, Bool.and_eq_true] at this
    exact this.2
  have h2 : LstE ms tk fs = 0 := by
    rw [LstE, if_pos h1, if_neg ?_]
    intro h3
    have h4 : LstE ms tk fs = 4 := by rw [LstE, if_pos h1, if_pos h3]
    have := lst_none h4 hL.ok
    rw [hsh] at this; cases this
  refine ⟨h2, ?_⟩
  have h3 := (leastIs h2).least _ hL.ok hsh
  rw [hL.lab]; exact h3
theorem least_nil {ms : List Meas} {tk : List Int} (h : LstE ms tk [] = 0) : LstN ms tk [] = 0 := by
  have hL := leastIs h
  have h0 := (lst_0 h).1
  obtain ⟨hmo, _, _, _⟩ := skill_0 (ms := ms) (tk := tk) (fs := []) (by rw [h0]; rfl)
  obtain ⟨_, hmb⟩ := meas_bd hmo
  have h1 := hL.least [] rfl rfl
  have h2 := labN_bd ms (fun m hm => (hmb m hm).2) (LstS ms tk []) (fun i hi => by have := setF_rng ms.length _ (-1) hL.ok i hi; omega)
  rw [← hL.lab] at h2
  have h3 : labN ms [] = 0 := rfl
  omega
end Go.Proofs.Ytlfbghkcfmcnlaa
