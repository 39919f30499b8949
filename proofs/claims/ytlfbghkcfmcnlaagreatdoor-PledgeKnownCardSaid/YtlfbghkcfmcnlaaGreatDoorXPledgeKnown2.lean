/- Texts of ours, joined: 26 of them. Conditions: none. -/
import Derived.Test.YtlfbghkcfmcnlaaGreatDoorXPledgeKnown1
import Derived.Test.YtlfbghkcfmcnlaaGreatDoorProg
import Derived.Laws.StructEq
import Derived.Sort.Walk0
import Derived.Lib.SplitLaws
import Derived.Maps.RangeRun
import Derived.Maps.AppendAt
import Derived.Recover
namespace Go.Proofs.YtlfbghkcfmcnlaaGreatDoor
open Go.Sx Go.RowKit
set_option maxRecDepth 20000
theorem len_of {a b : List Int} (h : ((a.length : Int) == (b.length : Int)) = true) : a.length = b.length := by
  have h2 : (a.length : Int) = b.length := by simpa using h
  omega
theorem same_start (a b : List Int) : (((a.length : Int) == (b.length : Int)) && decide (a.drop 0 = b.drop 0)) = decide (a = b) := by
  rw [List.drop_zero, List.drop_zero]
  by_cases h : (a.length : Int) = b.length
  · rw [show ((a.length : Int) == (b.length : Int)) = true by simpa using h]; rfl
  · rw [show ((a.length : Int) == (b.length : Int)) = false by simpa using h, eq_len h]; rfl
theorem beq_dec {x y : Int} {c : Bool} : ((x == y) && c) = (decide (x = y) && c) := by
  by_cases h : x = y <;> simp [h]
theorem Res.of_lit {α : Type} {w w' : World} {b sz : Nat} {enc : α → List Value} {xs : List α} (h : (litS b sz enc xs).P w' ∧ ∀ i, (litS b sz enc xs).fp i → w.heap.size ≤ i ∧ i < w'.heap.size ∧ ∀ o ∈ ([] : List Fact), ¬ o.fp i) : (sl (fun i => w.heap.size ≤ i ∧ i < w'.heap.size) sz enc (some ⟨b, 0, none⟩) xs).P w' :=
  sl_fp h.1 (fun i hi => ⟨(h.2 i hi).1, (h.2 i hi).2.1⟩)

theorem k_SameSp (a b : List Span) (Aa Ab : Option Addr) (ca cb : Nat) (w : World) (ha : Rd w 2 encSp Aa a) (hb : Rd w 2 encSp Ab b) : Calls Tryz.prog 42 #[.slice Aa a.length ca, .slice Ab b.length cb] w (fun e w' => e = .returned (.bool (decide (a = b))) ∧ Grow w w') := by
  have hla := ha.len
  have hlb := hb.len
  refine enter_pure (args := [.slice Aa a.length ca, .slice Ab b.length cb]) [sl (fun b => b < w.heap.size) 2 encSp Aa a, sl (fun b => b < w.heap.size) 2 encSp Ab b] Tryz.func42 rfl (by rw [Tryz.ntmps42]; simp) (fun g hg => by simp at hg; rcases hg with rfl | rfl; exact ⟨ha, fun _ h => h⟩; exact ⟨hb, fun _ h => h⟩) ?_
  refine cj_seq ?_
  refine cj_regionG (gj_step (y_assign rfl) rfl rfl rfl (gj_nil ?_))
  refine ej_th (cj_seq (cj_seq ?_))
  refine cj_regionG (gj_step (y_move rfl) rfl rfl rfl (gj_step (y_lenA Tryz.underlying54 rfl) rfl rfl rfl (gj_step (y_move rfl) rfl rfl rfl (gj_step (y_lenA Tryz.underlying54 rfl) rfl rfl rfl (gj_step (y_neq rfl rfl) rfl rfl rfl (gj_nil ?_))))))
  refine ej_th ?_
  refine cj_cond rfl (fun h10 => ?_) (fun h10 => ?_)
  · have h10b := h10
    try simp only [sxb] at h10
    refine cj_seq ?_
    refine cj_regionG (gj_step (y_assign rfl) rfl rfl rfl (gj_nil ?_))
    refine ej_th (cj_ret (ej_then_ret ?_))
    refine ej_ret1 rfl Tryz.results42 rfl (fun w' hp => ⟨?_, hp.below⟩)
    rw [eq_len (by simpa using h10b)]
  · have h10b := h10
    try simp only [sxb] at h10
    have hle0 : (a.length : Int) = b.length := by simpa using h10b
    have hle : a.length = b.length := by omega
    refine cj_skip (ej_th (cj_seq (cj_seq ?_)))
    refine cj_regionG (gj_step (y_assign rfl) rfl rfl rfl (gj_nil ?_))
    refine ej_th (cj_block ?_)
    refine cj_lpic (X := Nat) [(0, _), (1, _)] (fun k => k ≤ a.length ∧ decide (a.drop k = b.drop k) = decide (a = b)) (fun k => [(5, .int .i64 k)]) (fun k => a.length - k) 0 (⟨Nat.zero_le _, rfl⟩) ⟨rfl, rfl, rfl, trivial⟩ ?_
    rintro k ⟨hk, hsk⟩
    dsimp only [List.cons_append, List.nil_append]
    refine cj_seq (cj_seq ?_)
    refine cj_regionG (gj_step (y_move rfl) rfl rfl rfl (gj_step (y_move rfl) rfl rfl rfl (gj_step (y_lenA Tryz.underlying54 rfl) rfl rfl rfl (gj_step (y_lss rfl rfl) rfl rfl rfl (gj_nil ?_)))))
    refine ej_th ?_
    refine cj_cond rfl (fun h14 => ?_) (fun h14 => ?_)
    · have h14b := h14
      try simp only [sxb] at h14
      obtain ⟨x, hx⟩ : ∃ x, a[k]? = some x := ⟨_, List.getElem?_eq_getElem (by omega)⟩
      obtain ⟨y, hy⟩ : ∃ y, b[k]? = some y := ⟨_, List.getElem?_eq_getElem (by omega)⟩
      rw [eq_drop a b k x y hx hy] at hsk
      refine cj_skip (ej_th (cj_seq (cj_block (cj_seq ?_))))
      refine cj_draw (by kernel_rfl) (by kernel_rfl) (gj_step (y_move rfl) rfl rfl rfl (gj_step (y_move rfl) rfl rfl rfl (gj_step (y_ixR (reads_sl) Tryz.underlying54 Tryz.sizeOf70 rfl rfl (⟨by omega, by omega⟩)) rfl rfl rfl (gj_step (y_ldW (reads_sl) Tryz.isAgg70 Tryz.sizeOf70 rfl (hx) (fun _ => rfl)) rfl rfl rfl (gj_step (y_move rfl) rfl rfl rfl (gj_step (y_move rfl) rfl rfl rfl (gj_step (y_ixR (reads_sl) Tryz.underlying54 Tryz.sizeOf70 rfl rfl (⟨by omega, by omega⟩)) rfl rfl rfl (gj_step (y_ldW (reads_sl) Tryz.isAgg70 Tryz.sizeOf70 rfl (hy) (fun _ => rfl)) rfl rfl rfl (gj_step (y_bin rfl rfl (fun x y w => ne70 _ _ _ _ x y w)) rfl rfl rfl (gj_nil ?_))))))))))
      refine ej_th ?_
      refine cj_cond rfl (fun h25 => ?_) (fun h25 => ?_)
      · have h25b := h25
        try simp only [sxb] at h25
        rw [sp_neq] at h25b
        rw [not_t h25b] at hsk
        refine cj_seq ?_
        refine cj_regionG (gj_step (y_assign rfl) rfl rfl rfl (gj_nil ?_))
        refine ej_th (cj_ret (ej_blk_ret (ej_then_ret (ej_then_ret (ej_blk_ret (ej_then_ret ?_))))))
        refine ej_ret1 rfl Tryz.results42 rfl (fun w' hp => ⟨?_, hp.below⟩)
        rw [← hsk]; rfl
      · have h25b := h25
        try simp only [sxb] at h25
        rw [sp_neq] at h25b
        rw [not_f h25b, Bool.true_and] at hsk
        refine cj_skip (ej_blk (ej_th ?_))
        refine cj_regionG (gj_step (y_move rfl) rfl rfl rfl (gj_step (y_add rfl rfl (by omega)) rfl rfl rfl (gj_step (y_assign rfl) rfl rfl rfl (gj_nil ?_))))
        exact ej_nx (k + 1) (by omega) ⟨by omega, by exact hsk⟩ ⟨rfl, rfl, rfl, trivial⟩
    · have h14b := h14
      try simp only [sxb] at h14
      refine cj_exit (ej_then_exit (ej_then_exit (ej_blk_hit (ej_th (cj_seq ?_)))))
      refine cj_regionG (gj_step (y_assign rfl) rfl rfl rfl (gj_nil ?_))
      refine ej_th (cj_ret ?_)
      refine ej_ret1 rfl Tryz.results42 rfl (fun w' hp => ⟨?_, hp.below⟩)
      rw [← hsk, List.drop_of_length_le (show a.length ≤ k by omega), List.drop_of_length_le (show b.length ≤ k by omega)]; rfl

theorem k_Same (a b : List Int) (Aa Ab : Option Addr) (ca cb : Nat) (w : World) (ha : Rd w 1 enInt Aa a) (hb : Rd w 1 enInt Ab b) : Calls Tryz.prog 26 #[.slice Aa a.length ca, .slice Ab b.length cb] w (fun e w' => e = .returned (.bool (decide (a = b))) ∧ Grow w w') := by
  have hla := ha.len
  have hlb := hb.len
  refine enter_pure (args := [.slice Aa a.length ca, .slice Ab b.length cb]) [sl (fun b => b < w.heap.size) 1 enInt Aa a, sl (fun b => b < w.heap.size) 1 enInt Ab b] Tryz.func26 rfl (by rw [Tryz.ntmps26]; simp) (fun g hg => by simp at hg; rcases hg with rfl | rfl; exact ⟨ha, fun _ h => h⟩; exact ⟨hb, fun _ h => h⟩) ?_
  refine cj_seq ?_
  refine cj_regionG (gj_step (y_assign rfl) rfl rfl rfl (gj_nil ?_))
  refine ej_th (cj_seq ?_)
  refine cj_regionG (gj_step (y_move rfl) rfl rfl rfl (gj_step (y_lenA Tryz.underlying49 rfl) rfl rfl rfl (gj_step (y_move rfl) rfl rfl rfl (gj_step (y_lenA Tryz.underlying49 rfl) rfl rfl rfl (gj_step (y_eql rfl rfl) rfl rfl rfl (gj_step (y_assign rfl) rfl rfl rfl (gj_nil ?_)))))))
  refine ej_th (cj_seq (cj_seq ?_))
  refine cj_regionG (gj_step (y_assign rfl) rfl rfl rfl (gj_nil ?_))
  refine ej_th (cj_block ?_)
  refine cj_lpic (X := Nat × Bool) [(0, _), (1, _), (4, _)] (fun ⟨k, ok⟩ => k ≤ a.length ∧ (ok = true → a.length = b.length) ∧ (ok && decide (a.drop k = b.drop k)) = decide (a = b)) (fun ⟨k, ok⟩ => [(5, .bool ok), (6, .int .i64 k)]) (fun ⟨k, ok⟩ => a.length - k) (0, (a.length : Int) == (b.length : Int)) (⟨Nat.zero_le _, fun h => len_of h, same_start a b⟩) ⟨rfl, rfl, rfl, rfl, rfl, trivial⟩ ?_
  rintro ⟨k, ok⟩ ⟨hk, hle, hsk⟩
  dsimp only [List.cons_append, List.nil_append]
  refine cj_seq (cj_seq ?_)
  refine cj_regionG (gj_step (y_move rfl) rfl rfl rfl (gj_step (y_move rfl) rfl rfl rfl (gj_g 4 13 17 rfl rfl rfl rfl (fun hg13 => gj_yes rfl rfl rfl (y_move rfl) rfl rfl (gj_yes rfl rfl rfl (y_move rfl) rfl rfl (gj_yes rfl rfl rfl (y_lenA Tryz.underlying49 rfl) rfl rfl (gj_yes rfl rfl rfl (y_lss rfl rfl) rfl rfl (gj_nil rfl))))) (gj_step (y_and rfl rfl rfl) rfl rfl rfl (gj_nil ?_)))))
  refine ej_th ?_
  refine cj_cond rfl (fun h18 => ?_) (fun h18 => ?_)
  · have h18b := h18
    try simp only [sxb] at h18
    rw [Bool.and_eq_true, decide_eq_true_eq] at h18b
    have hok := h18b.1
    have hl2 := hle hok
    have hk2 := h18b.2
    obtain ⟨x, hx⟩ : ∃ x, a[k]? = some x := ⟨_, List.getElem?_eq_getElem (by omega)⟩
    obtain ⟨y, hy⟩ : ∃ y, b[k]? = some y := ⟨_, List.getElem?_eq_getElem (by omega)⟩
    rw [eq_drop a b k x y hx hy, hok, Bool.true_and] at hsk
    refine cj_skip (ej_th (cj_seq (cj_block ?_)))
    refine cj_draw (by kernel_rfl) (by kernel_rfl) (gj_step (y_move rfl) rfl rfl rfl (gj_step (y_move rfl) rfl rfl rfl (gj_step (y_ixR (reads_sl) Tryz.underlying49 Tryz.sizeOf3 rfl rfl (⟨by omega, by omega⟩)) rfl rfl rfl (gj_step (y_ld0 (reads_sl) Tryz.isAgg3 rfl (hx) rfl) rfl rfl rfl (gj_step (y_move rfl) rfl rfl rfl (gj_step (y_move rfl) rfl rfl rfl (gj_step (y_ixR (reads_sl) Tryz.underlying49 Tryz.sizeOf3 rfl rfl (⟨by omega, by omega⟩)) rfl rfl rfl (gj_step (y_ld0 (reads_sl) Tryz.isAgg3 rfl (hy) rfl) rfl rfl rfl (gj_step (y_eql rfl rfl) rfl rfl rfl (gj_step (y_assign rfl) rfl rfl rfl (gj_nil ?_)))))))))))
    refine ej_blk (ej_th ?_)
    refine cj_regionG (gj_step (y_move rfl) rfl rfl rfl (gj_step (y_add rfl rfl (by omega)) rfl rfl rfl (gj_step (y_assign rfl) rfl rfl rfl (gj_nil ?_))))
    exact ej_nx (k + 1, x == y) (by simp only; omega) ⟨by first | omega | (simp only; omega), fun _ => hle hok, by rw [← hsk, beq_dec]⟩ ⟨rfl, rfl, rfl, rfl, rfl, trivial⟩
  · have h18b := h18
    try simp only [sxb] at h18
    rw [Bool.and_eq_false_iff, decide_eq_false_iff_not] at h18b
    refine cj_exit (ej_then_exit (ej_then_exit (ej_blk_hit (ej_th (cj_seq ?_)))))
    refine cj_regionG (gj_step (y_move rfl) rfl rfl rfl (gj_step (y_assign rfl) rfl rfl rfl (gj_nil ?_)))
    refine ej_th (cj_ret ?_)
    refine ej_ret1 rfl Tryz.results26 rfl (fun w' hp => ⟨?_, hp.below⟩)
    rw [← hsk]
    cases hok : ok with
    | false => rfl
    | true =>
      have hl2 := hle hok
      have hk2 : a.length ≤ k := by rcases h18b with h | h; rw [hok] at h; cases h; omega
      rw [List.drop_of_length_le hk2, List.drop_of_length_le (show b.length ≤ k by omega)]; rfl

theorem k_gem (s : ByteArray) (w : World)  : Calls Tryz.prog 16 #[.string s] w (fun e w' => ∃ x : Nat, e = .returned (evI (gemV x s)) ∧ Grow w w' ∧ (∀ g ∈ ([] : List Fact), g.P w' ∧ ∀ b, g.fp b → w.heap.size ≤ b ∧ b < w'.heap.size) ∧ ([] : List Fact).Pairwise (fun f g => ∀ b, f.fp b → ¬ g.fp b) ∧ (∀ g ∈ [litS x 1 enStr [s]], g.P w' ∧ ∀ b, g.fp b → w.heap.size ≤ b ∧ b < w'.heap.size ∧ ∀ o ∈ ([] : List Fact), ¬ o.fp b)) := by
  refine enter_pure (args := [.string s]) [] Tryz.func16 rfl (by rw [Tryz.ntmps16]; simp) (by simp) ?_
  refine cj_seq (cj_region ?_)
  refine oj_alloc Tryz.zeroValue26 rfl rfl (fun b2 => ?_)
  refine oj_nil ?_
  refine ej_th (cj_seq (cj_region ?_))
  refine oj_step (y_move rfl) rfl rfl rfl ?_
  refine oj_buildSlice (cs := [.string s]) [.string ⟨#[]⟩] Tryz.underlying23 Tryz.sizeOf9 Tryz.zeroValue9 rfl rfl (by kernel_rfl) (by kernel_rfl) rfl (fun b4 => ?_)
  refine oj_step (y_build (cs := [.string ⟨#[103, 101, 109]⟩, .slice (some ⟨b4, 0, none⟩) 1 1, .slice none 0 0]) st26 rfl (by kernel_rfl)) rfl rfl rfl ?_
  refine oj_store rfl rfl rfl rfl Tryz.sizeOf26 rfl ?_
  refine oj_nil ?_
  refine ej_th (cj_ret ?_)
  exact ej_retC1 rfl Tryz.results16 rfl (y_loadN Tryz.isAgg26 Tryz.sizeOf26 rfl) (fun w' hp => ⟨b4, rfl, hp.below, by simp, List.Pairwise.nil, fun g hg => by
    rw [List.mem_singleton.1 hg]
    exact hp.lit [s] (fun _ => rfl) rfl (by unfold maxLen; simp)⟩)

theorem k_jewel (s : ByteArray) (A : Option Addr) (n c : Nat) (w : World)  : Calls Tryz.prog 15 #[.string s, .slice A n c] w (fun e w' => ∃ x : Nat, e = .returned (.agg #[.string sRing, .slice (at0 x) 2 2, .slice A n c]) ∧ Grow w w' ∧ (∀ g ∈ ([] : List Fact), g.P w' ∧ ∀ b, g.fp b → w.heap.size ≤ b ∧ b < w'.heap.size) ∧ ([] : List Fact).Pairwise (fun f g => ∀ b, f.fp b → ¬ g.fp b) ∧ (∀ g ∈ [litS x 1 enStr [sGold, s]], g.P w' ∧ ∀ b, g.fp b → w.heap.size ≤ b ∧ b < w'.heap.size ∧ ∀ o ∈ ([] : List Fact), ¬ o.fp b)) := by
  refine enter_pure (args := [.string s, .slice A n c]) [] Tryz.func15 rfl (by rw [Tryz.ntmps15]; simp) (by simp) ?_
  refine cj_seq (cj_region ?_)
  refine oj_alloc Tryz.zeroValue26 rfl rfl (fun b4 => ?_)
  refine oj_nil ?_
  refine ej_th (cj_seq (cj_region ?_))
  refine oj_step (y_move rfl) rfl rfl rfl ?_
  refine oj_buildSlice (cs := [.string ⟨#[103, 111, 108, 100]⟩, .string s]) [.string ⟨#[]⟩, .string ⟨#[]⟩] Tryz.underlying23 Tryz.sizeOf9 Tryz.zeroValue9 rfl rfl (by kernel_rfl) (by kernel_rfl) rfl (fun b6 => ?_)
  refine oj_step (y_move rfl) rfl rfl rfl ?_
  refine oj_step (y_build (cs := [.string ⟨#[114, 105, 110, 103]⟩, .slice (some ⟨b6, 0, none⟩) 2 2, .slice A n c]) st26 rfl (by kernel_rfl)) rfl rfl rfl ?_
  refine oj_store rfl rfl rfl rfl Tryz.sizeOf26 rfl ?_
  refine oj_nil ?_
  refine ej_th (cj_ret ?_)
  exact ej_retC1 rfl Tryz.results15 rfl (y_loadN Tryz.isAgg26 Tryz.sizeOf26 rfl) (fun w' hp => ⟨b6, rfl, hp.below, by simp, List.Pairwise.nil, fun g hg => by
    rw [List.mem_singleton.1 hg]
    exact hp.lit [sGold, s] (fun _ => rfl) rfl (by unfold maxLen; simp)⟩)

set_option maxHeartbeats 1000000 in
theorem k_grammar  (w : World)  : Calls Tryz.prog 17 #[] w (fun e w' => ∃ z : GrA × Nat × Nat, e = .returned (.slice (at0 z.1.g12) 2 2) ∧ Grow w w' ∧ (∀ g ∈ ([] : List Fact), g.P w' ∧ ∀ b, g.fp b → w.heap.size ≤ b ∧ b < w'.heap.size) ∧ ([] : List Fact).Pairwise (fun f g => ∀ b, f.fp b → ¬ g.fp b) ∧ (∀ g ∈ [clF (fun i => z.2.1 ≤ i ∧ i < z.2.2) (at0 z.1.g12) (gramV z.1)], g.P w' ∧ ∀ b, g.fp b → w.heap.size ≤ b ∧ b < w'.heap.size ∧ ∀ o ∈ ([] : List Fact), ¬ o.fp b)) := by
  refine enter_pure (args := []) [] Tryz.func17 rfl (by rw [Tryz.ntmps17]; simp) (by simp) ?_
  refine cj_seq ?_
  refine cj_regionG (gj_step (y_assign rfl) rfl rfl rfl (gj_nil ?_))
  refine ej_th (cj_seq (cj_region ?_))
  refine oj_buildSlice (cs := [.string ⟨#[103, 111, 108, 100]⟩, .string ⟨#[115, 105, 108, 118, 101, 114]⟩]) [.string ⟨#[]⟩, .string ⟨#[]⟩] Tryz.underlying23 Tryz.sizeOf9 Tryz.zeroValue9 rfl rfl (by kernel_rfl) (by kernel_rfl) rfl (fun b1 => ?_)
  refine oj_step (y_build (cs := [.string ⟨#[109, 101, 116, 97, 108]⟩, .slice (some ⟨b1, 0, none⟩) 2 2, .bool true]) st39 rfl (by kernel_rfl)) rfl rfl rfl ?_
  refine oj_buildSlice (cs := [.string ⟨#[115, 109, 97, 108, 108]⟩, .string ⟨#[108, 97, 114, 103, 101]⟩]) [.string ⟨#[]⟩, .string ⟨#[]⟩] Tryz.underlying23 Tryz.sizeOf9 Tryz.zeroValue9 rfl rfl (by kernel_rfl) (by kernel_rfl) rfl (fun b3 => ?_)
  refine oj_step (y_build (cs := [.string ⟨#[115, 105, 122, 101]⟩, .slice (some ⟨b3, 0, none⟩) 2 2, .bool false]) st39 rfl (by kernel_rfl)) rfl rfl rfl ?_
  refine oj_buildSlice (cs := [.string ⟨#[109, 101, 116, 97, 108]⟩, .slice (some ⟨b1, 0, none⟩) 2 2, .bool true, .string ⟨#[115, 105, 122, 101]⟩, .slice (some ⟨b3, 0, none⟩) 2 2, .bool false]) [.string ⟨#[]⟩, .slice none 0 0, .bool false, .string ⟨#[]⟩, .slice none 0 0, .bool false] Tryz.underlying35 Tryz.sizeOf39 Tryz.zeroValue39 rfl rfl (by kernel_rfl) (by kernel_rfl) rfl (fun b5 => ?_)
  refine oj_buildSlice (cs := [.string ⟨#[103, 101, 109]⟩]) [.string ⟨#[]⟩] Tryz.underlying23 Tryz.sizeOf9 Tryz.zeroValue9 rfl rfl (by kernel_rfl) (by kernel_rfl) rfl (fun b6 => ?_)
  refine oj_step (y_build (cs := [.string ⟨#[114, 105, 110, 103]⟩, .slice (some ⟨b5, 0, none⟩) 2 2, .slice (some ⟨b6, 0, none⟩) 1 1, .int .i64 2]) st37 rfl (by kernel_rfl)) rfl rfl rfl ?_
  refine oj_buildSlice (cs := [.string ⟨#[114, 111, 117, 110, 100]⟩, .string ⟨#[111, 118, 97, 108]⟩]) [.string ⟨#[]⟩, .string ⟨#[]⟩] Tryz.underlying23 Tryz.sizeOf9 Tryz.zeroValue9 rfl rfl (by kernel_rfl) (by kernel_rfl) rfl (fun b8 => ?_)
  refine oj_step (y_build (cs := [.string ⟨#[99, 117, 116]⟩, .slice (some ⟨b8, 0, none⟩) 2 2, .bool false]) st39 rfl (by kernel_rfl)) rfl rfl rfl ?_
  refine oj_buildSlice (cs := [.string ⟨#[99, 117, 116]⟩, .slice (some ⟨b8, 0, none⟩) 2 2, .bool false]) [.string ⟨#[]⟩, .slice none 0 0, .bool false] Tryz.underlying35 Tryz.sizeOf39 Tryz.zeroValue39 rfl rfl (by kernel_rfl) (by kernel_rfl) rfl (fun b10 => ?_)
  refine oj_step (y_build (cs := [.string ⟨#[103, 101, 109]⟩, .slice (some ⟨b10, 0, none⟩) 1 1, .slice none 0 0, .int .i64 0]) st37 rfl (by kernel_rfl)) rfl rfl rfl ?_
  refine oj_buildSlice (cs := [.string ⟨#[114, 105, 110, 103]⟩, .slice (some ⟨b5, 0, none⟩) 2 2, .slice (some ⟨b6, 0, none⟩) 1 1, .int .i64 2, .string ⟨#[103, 101, 109]⟩, .slice (some ⟨b10, 0, none⟩) 1 1, .slice none 0 0, .int .i64 0]) [.string ⟨#[]⟩, .slice none 0 0, .slice none 0 0, .int .i64 0, .string ⟨#[]⟩, .slice none 0 0, .slice none 0 0, .int .i64 0] Tryz.underlying22 Tryz.sizeOf37 Tryz.zeroValue37 rfl rfl (by kernel_rfl) (by kernel_rfl) rfl (fun b12 => ?_)
  refine oj_step (y_assign rfl) rfl rfl rfl ?_
  refine oj_nil ?_
  refine ej_th (cj_ret ?_)
  refine ej_ret1 rfl Tryz.results17 rfl (fun w' hp => ⟨(⟨b1, b3, b5, b6, b8, b10, b12⟩, w.heap.size, w'.heap.size), rfl, hp.below, by simp, List.Pairwise.nil, fun g hg => ?_⟩)
  rw [List.mem_singleton.1 hg]
  refine ⟨⟨?_, fun c hc => ?_⟩, fun i hi => ⟨hi.1, hi.2, by simp⟩⟩
  · exact Res.of_lit (hp.lit (b := b12) (enc := encCl) (sz := 4) (gramV ⟨b1, b3, b5, b6, b8, b10, b12⟩) (fun _ => rfl) rfl (by unfold maxLen; simp))
  · simp only [List.mem_cons, List.mem_nil_iff, or_false] at hc
    rcases hc with rfl | rfl
    · refine ⟨Res.of_lit (hp.lit (b := b5) (enc := encTr) (sz := 3) (gTr1 ⟨b1, b3, b5, b6, b8, b10, b12⟩) (fun _ => rfl) rfl (by unfold maxLen; simp)), fun t ht => ?_, Res.of_lit (hp.lit (b := b6) (enc := enStr) (sz := 1) [sGem] (fun _ => rfl) rfl (by unfold maxLen; simp)), (show smS [sGem] from by decide), (show ByteArray.size sRing ≤ 9223372036854775807 from by decide)⟩
      simp only [List.mem_cons, List.mem_nil_iff, or_false] at ht
      rcases ht with rfl | rfl
      · exact ⟨Res.of_lit (hp.lit (b := b1) (enc := enStr) (sz := 1) [sGold, sSilver] (fun _ => rfl) rfl (by unfold maxLen; simp)), (show smS [sGold, sSilver] from by decide), (show ByteArray.size sMetal ≤ 9223372036854775807 from by decide)⟩
      · exact ⟨Res.of_lit (hp.lit (b := b3) (enc := enStr) (sz := 1) [sSmall, sLarge] (fun _ => rfl) rfl (by unfold maxLen; simp)), (show smS [sSmall, sLarge] from by decide), (show ByteArray.size sSize ≤ 9223372036854775807 from by decide)⟩
    · refine ⟨Res.of_lit (hp.lit (b := b10) (enc := encTr) (sz := 3) (gTr2 ⟨b1, b3, b5, b6, b8, b10, b12⟩) (fun _ => rfl) rfl (by unfold maxLen; simp)), fun t ht => ?_, Res.nil, (fun s hs => by cases hs), (show ByteArray.size sGem ≤ 9223372036854775807 from by decide)⟩
      simp only [List.mem_cons, List.mem_nil_iff, or_false] at ht
      subst ht
      exact ⟨Res.of_lit (hp.lit (b := b8) (enc := enStr) (sz := 1) [sRound, sOval] (fun _ => rfl) rfl (by unfold maxLen; simp)), (show smS [sRound, sOval] from by decide), (show ByteArray.size sCut ≤ 9223372036854775807 from by decide)⟩

set_option maxHeartbeats 1000000 in
theorem k_skillEx  (w : World)  : Calls Tryz.prog 19 #[] w (fun e w' => ∃ z : Nat × Nat × Nat × Nat × Nat, e = .returned (.agg #[.slice (at0 z.1) 2 2, .slice (at0 z.2.1) 2 2, .slice (at0 z.2.2.1) 2 2]) ∧ Grow w w' ∧ (∀ g ∈ ([] : List Fact), g.P w' ∧ ∀ b, g.fp b → w.heap.size ≤ b ∧ b < w'.heap.size) ∧ ([] : List Fact).Pairwise (fun f g => ∀ b, f.fp b → ¬ g.fp b) ∧ (∀ g ∈ [litS z.1 2 encMe mEx, litS z.2.1 1 enInt tEx, litS z.2.2.1 1 encFk (fEx z.2.2.2.1 z.2.2.2.2), litS z.2.2.2.1 2 encSp [⟨90, 93⟩, ⟨900, 1100⟩], litS z.2.2.2.2 2 encSp [⟨95, 105⟩, ⟨1016, 1030⟩]], g.P w' ∧ ∀ b, g.fp b → w.heap.size ≤ b ∧ b < w'.heap.size ∧ ∀ o ∈ ([] : List Fact), ¬ o.fp b)) := by
  refine enter_pure (args := []) [] Tryz.func19 rfl (by rw [Tryz.ntmps19]; simp) (by simp) ?_
  refine cj_seq (cj_region ?_)
  refine oj_alloc Tryz.zeroValue52 rfl rfl (fun b0 => ?_)
  refine oj_nil ?_
  refine ej_th (cj_seq (cj_region ?_))
  refine oj_step (y_build (cs := [.int .i64 2, .int .i64 1]) st98 rfl (by kernel_rfl)) rfl rfl rfl ?_
  refine oj_step (y_build (cs := [.int .i64 5, .int .i64 4]) st98 rfl (by kernel_rfl)) rfl rfl rfl ?_
  refine oj_buildSlice (cs := [.int .i64 2, .int .i64 1, .int .i64 5, .int .i64 4]) [.int .i64 0, .int .i64 0, .int .i64 0, .int .i64 0] Tryz.underlying48 Tryz.sizeOf98 Tryz.zeroValue98 rfl rfl (by kernel_rfl) (by kernel_rfl) rfl (fun b3 => ?_)
  refine oj_buildSlice (cs := [.int .i64 100, .int .i64 1000]) [.int .i64 0, .int .i64 0] Tryz.underlying49 Tryz.sizeOf3 Tryz.zeroValue3 rfl rfl (by kernel_rfl) (by kernel_rfl) rfl (fun b4 => ?_)
  refine oj_step (y_build (cs := [.int .i64 90, .int .i64 93]) st70 rfl (by kernel_rfl)) rfl rfl rfl ?_
  refine oj_step (y_build (cs := [.int .i64 900, .int .i64 1100]) st70 rfl (by kernel_rfl)) rfl rfl rfl ?_
  refine oj_buildSlice (cs := [.int .i64 90, .int .i64 93, .int .i64 900, .int .i64 1100]) [.int .i64 0, .int .i64 0, .int .i64 0, .int .i64 0] Tryz.underlying54 Tryz.sizeOf70 Tryz.zeroValue70 rfl rfl (by kernel_rfl) (by kernel_rfl) rfl (fun b7 => ?_)
  refine oj_step (y_build (cs := [.slice (some ⟨b7, 0, none⟩) 2 2]) st63 rfl (by kernel_rfl)) rfl rfl rfl ?_
  refine oj_step (y_build (cs := [.int .i64 95, .int .i64 105]) st70 rfl (by kernel_rfl)) rfl rfl rfl ?_
  refine oj_step (y_build (cs := [.int .i64 1016, .int .i64 1030]) st70 rfl (by kernel_rfl)) rfl rfl rfl ?_
  refine oj_buildSlice (cs := [.int .i64 95, .int .i64 105, .int .i64 1016, .int .i64 1030]) [.int .i64 0, .int .i64 0, .int .i64 0, .int .i64 0] Tryz.underlying54 Tryz.sizeOf70 Tryz.zeroValue70 rfl rfl (by kernel_rfl) (by kernel_rfl) rfl (fun b11 => ?_)
  refine oj_step (y_build (cs := [.slice (some ⟨b11, 0, none⟩) 2 2]) st63 rfl (by kernel_rfl)) rfl rfl rfl ?_
  refine oj_buildSlice (cs := [.slice (some ⟨b7, 0, none⟩) 2 2, .slice (some ⟨b11, 0, none⟩) 2 2]) [.slice none 0 0, .slice none 0 0] Tryz.underlying50 Tryz.sizeOf63 Tryz.zeroValue63 rfl rfl (by kernel_rfl) (by kernel_rfl) rfl (fun b13 => ?_)
  refine oj_step (y_build (cs := [.slice (some ⟨b3, 0, none⟩) 2 2, .slice (some ⟨b4, 0, none⟩) 2 2, .slice (some ⟨b13, 0, none⟩) 2 2]) st52 rfl (by kernel_rfl)) rfl rfl rfl ?_
  refine oj_store rfl rfl rfl rfl Tryz.sizeOf52 rfl ?_
  refine oj_nil ?_
  refine ej_th (cj_ret ?_)
  refine ej_retC1 rfl Tryz.results19 rfl (y_loadN Tryz.isAgg52 Tryz.sizeOf52 rfl) (fun w' hp => ⟨(b3, b4, b13, b7, b11), rfl, hp.below, by simp, List.Pairwise.nil, fun g hg => ?_⟩)
  simp only [List.mem_cons, List.mem_nil_iff, or_false] at hg
  rcases hg with rfl | rfl | rfl | rfl | rfl
  · exact hp.lit mEx (fun _ => rfl) rfl (by unfold maxLen; simp)
  · exact hp.lit tEx (fun _ => rfl) rfl (by unfold maxLen; simp)
  · exact hp.lit (fEx b7 b11) (fun _ => rfl) rfl (by unfold maxLen; simp)
  · exact hp.lit (enc := encSp) [⟨90, 93⟩, ⟨900, 1100⟩] (fun _ => rfl) rfl (by unfold maxLen; simp)
  · exact hp.lit (enc := encSp) [⟨95, 105⟩, ⟨1016, 1030⟩] (fun _ => rfl) rfl (by unfold maxLen; simp)

end Go.Proofs.YtlfbghkcfmcnlaaGreatDoor
namespace Go.Proofs.YtlfbghkcfmcnlaaGreatDoor
open Go.Sx Go.RowKit
set_option maxRecDepth 20000

end Go.Proofs.YtlfbghkcfmcnlaaGreatDoor
namespace Go.Proofs.YtlfbghkcfmcnlaaGreatDoor
open Go.Sx Go.RowKit
set_option maxRecDepth 20000
theorem k_find1 (a b : ItemV) (xa xb xu x7 x8 i : Nat) (us : List Bool) (w0 : World) (w : World) (hw : FindW w0 w a b xa xb xu x7 x8) (hob : w.heap[xu]? = some (cellsB 4 (bls us))) (hga : GoodI w0 a) (hgb : GoodI w0 b) (hi : i ≤ a.parts.length) (hus : us.length = b.parts.length) (ihc : ∀ p ∈ a.parts, ∀ q ∈ b.parts, ∀ w1, Grow w0 w1 → Calls Tryz.prog 78 #[evI p, evI q] w1 (fun e w' => e = .returned (.bool (covI p q)) ∧ Grow w1 w')) (ihf : ∀ (vs : List Bool) (w1 : World), i < a.parts.length → vs.length = b.parts.length → FindW w0 w1 a b xa xb xu x7 x8 → w1.heap[xu]? = some (cellsB 4 (bls vs)) → Calls Tryz.prog 95 (#[] ++ [.int .i64 ((i : Int) + 1)].toArray ++ #[.pointer (some ⟨xa, 0, none⟩), .pointer (some ⟨xb, 0, none⟩), .pointer (some ⟨x7, 0, none⟩), .pointer (some ⟨x8, 0, none⟩)]) w1 (fun e w' => e = .returned (.bool (asg (covRows (a.parts.drop (i + 1)) b.parts) vs).1) ∧ Mut (ownB xu (cellsB 4 (bls vs))) w1 w' ∧ w'.heap[xu]? = some (cellsB 4 (bls (asg (covRows (a.parts.drop (i + 1)) b.parts) vs).2)))) : Calls Tryz.prog 95 #[.int .i64 (i : Nat), .pointer (some ⟨xa, 0, none⟩), .pointer (some ⟨xb, 0, none⟩), .pointer (some ⟨x7, 0, none⟩), .pointer (some ⟨x8, 0, none⟩)] w (fun e w' => e = .returned (.bool (asg (covRows (a.parts.drop i) b.parts) us).1) ∧ Mut (ownB xu (cellsB 4 (bls us))) w w' ∧ w'.heap[xu]? = some (cellsB 4 (bls (asg (covRows (a.parts.drop i) b.parts) us).2))) := by
  have hl1 := hga.rp.len
  have hl2 := hgb.rp.len
  have hF : ∀ j, j < w0.heap.size → j < w.heap.size ∧ j ≠ xu := fun j h => ⟨Nat.lt_of_lt_of_le h hw.hg.size, fun e => by have := hw.hu; omega⟩
  refine enter_own (args := [.int .i64 (i : Nat), .pointer (some ⟨xa, 0, none⟩), .pointer (some ⟨xb, 0, none⟩), .pointer (some ⟨x7, 0, none⟩), .pointer (some ⟨x8, 0, none⟩)]) xu (cellsB 4 (bls us)) [ownB xa (cellsB 26 [.string a.cls, .slice a.As a.says.length a.cs, .slice a.Ap a.parts.length a.cp]), ownB xb (cellsB 26 [.string b.cls, .slice b.As b.says.length b.cs, .slice b.Ap b.parts.length b.cp]), ownB x7 (cellsB 147 [.slice (some ⟨xu, 0, none⟩) b.parts.length b.parts.length]), ownB x8 (cellsB 109 [.func (.func 95) #[] #[.pointer (some ⟨xa, 0, none⟩), .pointer (some ⟨xb, 0, none⟩), .pointer (some ⟨x7, 0, none⟩), .pointer (some ⟨x8, 0, none⟩)]])] Tryz.func95 rfl (by rw [Tryz.ntmps95]; simp) hob (fun g hg => by
    have hlt : ∀ (x : Nat) (o : Obj), w.heap[x]? = some o → x < w.heap.size := fun x o h => (Array.getElem?_eq_some_iff.1 h).1
    simp only [List.mem_cons, List.mem_nil_iff, or_false] at hg
    rcases hg with rfl | rfl | rfl | rfl
    · exact ⟨hw.ha, fun i hi => by have : i = xa := hi; subst this; exact ⟨hlt _ _ hw.ha, hw.na⟩⟩
    · exact ⟨hw.hb, fun i hi => by have : i = xb := hi; subst this; exact ⟨hlt _ _ hw.hb, hw.nb⟩⟩
    · exact ⟨hw.h7, fun i hi => by have : i = x7 := hi; subst this; exact ⟨hlt _ _ hw.h7, hw.n7⟩⟩
    · exact ⟨hw.h8, fun i hi => by have : i = x8 := hi; subst this; exact ⟨hlt _ _ hw.h8, hw.n8⟩⟩) ?_
  refine cj_seq ?_
  refine cj_regionG (gj_step (y_assign rfl) rfl rfl rfl (gj_nil ?_))
  refine ej_th ?_
  refine cj_scope rfl ?_
  refine cj_seq (cj_seq ?_)
  refine cj_regionG (gj_step (y_move rfl) rfl rfl rfl (gj_step (y_fa fa26_2 rfl) rfl rfl rfl (gj_step (y_loadS1 Tryz.isAgg24 rfl rfl) rfl rfl rfl (gj_step (y_lenA Tryz.underlying24 rfl) rfl rfl rfl (gj_step (y_eql rfl rfl) rfl rfl rfl (gj_nil ?_))))))
  refine ej_th ?_
  refine cj_cond rfl (fun h13 => ?_) (fun h13 => ?_)
  · have h13b := h13
    try simp only [sxb] at h13
    have hie : i = a.parts.length := by omega
    have hro : covRows (a.parts.drop i) b.parts = [] := by rw [List.drop_of_length_le (by omega)]; unfold covRows; rfl
    refine cj_seq ?_
    refine cj_regionG (gj_step (y_assign rfl) rfl rfl rfl (gj_nil ?_))
    refine ej_th (cj_ret (ej_then_ret (ej_noGoto_ret ?_)))
    exact ej_ret1 rfl Tryz.results95 rfl (fun w' hp => ⟨by rw [hro]; rfl, hp.mut, by rw [hro]; exact hp.own1⟩)
  · have h13b := h13
    try simp only [sxb] at h13
    obtain ⟨p, hai⟩ : ∃ p, a.parts[i]? = some p := ⟨_, List.getElem?_eq_getElem (by omega)⟩
    have hro := covRows_drop a.parts b.parts i p hai
    refine cj_rd0 w0 hw.hg hF hga.rp ?_
    refine cj_rd0 w0 hw.hg hF hgb.rp ?_
    refine cj_skip (ej_th (cj_seq (cj_label (ej_th (cj_seq (cj_seq ?_))))))
    refine cj_regionG (gj_step (y_fa fa26_2 rfl) rfl rfl rfl (gj_step (y_loadS1 Tryz.isAgg24 rfl rfl) rfl rfl rfl (gj_step (y_lenA Tryz.underlying24 rfl) rfl rfl rfl (gj_step (y_move rfl) rfl rfl rfl (gj_nil ?_)))))
    refine ej_th (cj_block ?_)
    refine cj_lpi (X := Nat × List Bool) [(0, _), (1, _), (3, _), (4, _), (15, _), (16, _)] (fun ⟨k, vs⟩ => k ≤ b.parts.length ∧ vs.length = b.parts.length ∧ scanA (fun u => asg (covRows (a.parts.drop (i + 1)) b.parts) u) ((b.parts.map (fun q => covI p q)).drop k) k vs = asg (covRows (a.parts.drop i) b.parts) us) (fun ⟨k, vs⟩ => [(17, .int .i64 k)]) (fun ⟨k, vs⟩ => [ownB xu (cellsB 4 (bls vs))]) (fun ⟨k, vs⟩ => [sl (fun i => i < w0.heap.size) 3 encIt b.Ap b.parts, sl (fun i => i < w0.heap.size) 3 encIt a.Ap a.parts, ownB xa (cellsB 26 [.string a.cls, .slice a.As a.says.length a.cs, .slice a.Ap a.parts.length a.cp]), ownB xb (cellsB 26 [.string b.cls, .slice b.As b.says.length b.cs, .slice b.Ap b.parts.length b.cp]), ownB x7 (cellsB 147 [.slice (some ⟨xu, 0, none⟩) b.parts.length b.parts.length]), ownB x8 (cellsB 109 [.func (.func 95) #[] #[.pointer (some ⟨xa, 0, none⟩), .pointer (some ⟨xb, 0, none⟩), .pointer (some ⟨x7, 0, none⟩), .pointer (some ⟨x8, 0, none⟩)]])]) (fun ⟨k, vs⟩ => b.parts.length - k) (0, us) (⟨Nat.zero_le _, hus, by rw [hro]; rfl⟩) ⟨rfl, rfl, rfl, rfl, rfl, rfl, rfl, trivial⟩ ?_
    rintro ⟨k, vs⟩ ⟨hk, hvl, hsc⟩
    dsimp only [List.cons_append, List.nil_append]
    refine cj_seq ?_
    refine cj_regionG (gj_step (y_lss rfl rfl) rfl rfl rfl (gj_nil ?_))
    refine ej_th (cj_seq ?_)
    refine cj_cond rfl (fun h18 => ?_) (fun h18 => ?_)
    · have h18b := h18
      try simp only [sxb] at h18
      obtain ⟨q, hq⟩ : ∃ q, b.parts[k]? = some q := ⟨_, List.getElem?_eq_getElem (by omega)⟩
      obtain ⟨u, hu⟩ : ∃ u, vs[k]? = some u := ⟨_, List.getElem?_eq_getElem (by omega)⟩
      have hrk : (b.parts.map (fun q => covI p q))[k]? = some (covI p q) := by rw [List.getElem?_map, hq]; rfl
      rw [scanA_drop _ _ k _ u vs hrk hu] at hsc
      refine cj_skip (ej_th (cj_seq (cj_block (cj_seq (cj_region ?_)))))
      refine oj_step (y_move rfl) rfl rfl rfl ?_
      refine oj_step (y_ixR (reads_sl) Tryz.underlying24 Tryz.sizeOf26 rfl rfl (⟨by omega, by omega⟩)) rfl rfl rfl ?_
      refine oj_step (y_ldW (reads_sl) Tryz.isAgg26 Tryz.sizeOf26 rfl (hq) (fun _ => rfl)) rfl rfl rfl ?_
      refine oj_alloc Tryz.zeroValue26 rfl rfl (fun b8 => ?_)
      refine oj_step (y_assign rfl) rfl rfl rfl ?_
      refine oj_store rfl rfl rfl rfl Tryz.sizeOf26 rfl ?_
      refine oj_nil ?_
      refine ej_th (cj_seq (cj_seq ?_))
      refine cj_draw (by kernel_rfl) (by kernel_rfl) ?_
      refine gj_step (y_loadS1 Tryz.isAgg147 rfl rfl) rfl rfl rfl (gj_step (y_move rfl) rfl rfl rfl (gj_step (y_ixK Tryz.underlying147 Tryz.sizeOf4 rfl rfl (by omega)) rfl rfl rfl (gj_step (y_load1 Tryz.isAgg4 rfl (bls_get hu)) rfl rfl rfl (gj_step (y_move rfl) rfl rfl rfl (?_)))))
      refine gj_g 8 26 34 rfl rfl rfl rfl (fun hg26 => gj_yes rfl rfl rfl (y_fa fa26_2 rfl) rfl rfl (gj_yes rfl rfl rfl (y_loadS1 Tryz.isAgg24 rfl rfl) rfl rfl (gj_yes rfl rfl rfl (y_move rfl) rfl rfl (gj_yes rfl rfl rfl (y_ixR (reads_sl) Tryz.underlying24 Tryz.sizeOf26 rfl rfl (⟨by omega, by omega⟩)) rfl rfl (gj_yes rfl rfl rfl (y_ldW (reads_sl) Tryz.isAgg26 Tryz.sizeOf26 rfl (hai) (fun _ => rfl)) rfl rfl (gj_yes rfl rfl rfl (y_loadN Tryz.isAgg26 Tryz.sizeOf26 rfl) rfl rfl (gj_yes rfl rfl rfl (y_call Tryz.call78 rfl (fun w hp => by have h := ihc p (List.mem_of_getElem? hai) q (List.mem_of_getElem? hq) w (hp.grow0 hw.hg hF); exact h)) rfl rfl (gj_yes rfl rfl rfl (y_not rfl) rfl rfl (gj_nil rfl))))))))) ?_
      refine gj_step (y_or rfl rfl rfl) rfl rfl rfl (?_)
      refine gj_nil ?_
      refine ej_th ?_
      refine cj_cond rfl (fun h35 => ?_) (fun h35 => ?_)
      · have h35b := h35
        try simp only [sxb] at h35
        rw [if_pos h35b] at hsc
        refine cj_exit (ej_then_exit (ej_blk_hit (ej_th ?_)))
        refine cj_regionG (gj_step (y_add rfl rfl (by omega)) rfl rfl rfl (gj_step (y_move rfl) rfl rfl rfl (gj_nil ?_)))
        exact ej_nx (k + 1, vs) (by simp only; omega) ⟨by first | omega | (simp only; omega), hvl, hsc⟩ ⟨rfl, rfl, rfl, rfl, rfl, rfl, rfl, trivial⟩
      · have h35b := h35
        try simp only [sxb] at h35
        rw [if_neg (by rw [h35b]; simp)] at hsc
        refine cj_skip (ej_th (cj_seq (cj_region ?_)))
        refine oj_step (y_loadS1 Tryz.isAgg147 rfl rfl) rfl rfl rfl ?_
        refine oj_step (y_move rfl) rfl rfl rfl ?_
        refine oj_step (y_ixK Tryz.underlying147 Tryz.sizeOf4 rfl rfl (by omega)) rfl rfl rfl ?_
        refine oj_storeK rfl rfl rfl rfl Tryz.sizeOf4 (by rw [bls_len]; omega) ?_
        rw [bls_set]
        refine oj_nil ?_
        refine ej_th (cj_seq (cj_seq (cj_region ?_)))
        refine oj_step (y_loadS1 Tryz.isAgg109 rfl rfl) rfl rfl rfl ?_
        refine oj_step (y_move rfl) rfl rfl rfl ?_
        refine oj_step (y_add rfl rfl (by omega)) rfl rfl rfl ?_
        refine oj_callMV (X := Unit) (fun _ => .bool (asg (covRows (a.parts.drop (i + 1)) b.parts) (vs.set k true)).1) (fun _ => cellsB 4 (bls (asg (covRows (a.parts.drop (i + 1)) b.parts) (vs.set k true)).2)) rfl rfl ⟨95, #[], #[.pointer (some ⟨xa, 0, none⟩), .pointer (some ⟨xb, 0, none⟩), .pointer (some ⟨x7, 0, none⟩), .pointer (some ⟨x8, 0, none⟩)], rfl, Tryz.call95, fun w hp => (ihf (vs.set k true) w (by omega) (by simp; omega) ⟨hp.grow0 hw.hg hF, hw.hu, hp.bs, hp.bs, hp.bs, hp.bs, hw.na, hw.nb, hw.n7, hw.n8⟩ hp.own1).mono fun e w' ⟨h1, h2, h3⟩ => ⟨(), h1, h2, h3⟩⟩ rfl (fun _ => ?_)
        obtain ⟨us2, hu2⟩ : ∃ u, u = (asg (covRows (a.parts.drop (i + 1)) b.parts) (vs.set k true)).2 := ⟨_, rfl⟩
        have hul2 : us2.length = b.parts.length := by rw [hu2, asg_len]; simp; omega
        rw [← hu2]
        refine oj_nil ?_
        refine ej_th ?_
        refine cj_cond rfl (fun h42 => ?_) (fun h42 => ?_)
        · have h42b := h42
          try simp only [sxb] at h42
          rw [if_pos h42b, ← hu2] at hsc
          refine cj_seq ?_
          refine cj_regionG (gj_step (y_assign rfl) rfl rfl rfl (gj_nil ?_))
          refine ej_th (cj_ret (ej_then_ret (ej_blk_ret (ej_then_ret (ej_then_ret (ej_blk_ret (ej_then_ret (ej_noGoto_ret ?_))))))))
          exact ej_ret1 rfl Tryz.results95 rfl (fun w' hp => ⟨by rw [← hsc], hp.mut, by rw [← hsc]; exact hp.own1⟩)
        · have h42b := h42
          try simp only [sxb] at h42
          rw [if_neg (by rw [h42b]; simp), ← hu2] at hsc
          refine cj_skip (ej_th (cj_region ?_))
          refine oj_step (y_loadS1 Tryz.isAgg147 rfl rfl) rfl rfl rfl ?_
          refine oj_step (y_move rfl) rfl rfl rfl ?_
          refine oj_step (y_ixK Tryz.underlying147 Tryz.sizeOf4 rfl rfl (by omega)) rfl rfl rfl ?_
          refine oj_storeK rfl rfl rfl rfl Tryz.sizeOf4 (by rw [bls_len]; omega) ?_
          rw [bls_set]
          refine oj_nil ?_
          refine ej_blk (ej_th ?_)
          refine cj_regionG (gj_step (y_add rfl rfl (by omega)) rfl rfl rfl (gj_step (y_move rfl) rfl rfl rfl (gj_nil ?_)))
          exact ej_nx (k + 1, us2.set k false) (by simp only; omega) ⟨by first | omega | (simp only; omega), by simp only [List.length_set]; exact hul2, hsc⟩ ⟨rfl, rfl, rfl, rfl, rfl, rfl, rfl, trivial⟩
    · have h18b := h18
      try simp only [sxb] at h18
      refine cj_exit (ej_then_exit (ej_then_exit (ej_blk_hit (ej_th (cj_seq ?_)))))
      refine cj_regionG (gj_step (y_assign rfl) rfl rfl rfl (gj_nil ?_))
      refine ej_th (cj_ret (ej_noGoto_ret ?_))
      rw [List.drop_of_length_le (show (b.parts.map (fun q => covI p q)).length ≤ k by rw [List.length_map]; omega), scanA] at hsc
      exact ej_ret1 rfl Tryz.results95 rfl (fun w' hp => ⟨by rw [← hsc], hp.mut, by rw [← hsc]; exact hp.own1⟩)

end Go.Proofs.YtlfbghkcfmcnlaaGreatDoor
namespace Go.Proofs.YtlfbghkcfmcnlaaGreatDoor
open Go.Sx Go.RowKit
set_option maxRecDepth 20000

end Go.Proofs.YtlfbghkcfmcnlaaGreatDoor
namespace Go.Proofs.YtlfbghkcfmcnlaaGreatDoor
open Go.Sx Go.RowKit
set_option maxRecDepth 20000
theorem k_findA (a b : ItemV) (xa xb xu x7 x8 : Nat) (w0 : World) (hga : GoodI w0 a) (hgb : GoodI w0 b) (ihc : ∀ p ∈ a.parts, ∀ q ∈ b.parts, ∀ w1, Grow w0 w1 → Calls Tryz.prog 78 #[evI p, evI q] w1 (fun e w' => e = .returned (.bool (covI p q)) ∧ Grow w1 w')) : ∀ (n i : Nat) (us : List Bool) (w : World), a.parts.length - i = n → i ≤ a.parts.length → us.length = b.parts.length → FindW w0 w a b xa xb xu x7 x8 → w.heap[xu]? = some (cellsB 4 (bls us)) →
    Calls Tryz.prog 95 #[.int .i64 (i : Nat), .pointer (some ⟨xa, 0, none⟩), .pointer (some ⟨xb, 0, none⟩), .pointer (some ⟨x7, 0, none⟩), .pointer (some ⟨x8, 0, none⟩)] w (fun e w' => e = .returned (.bool (asg (covRows (a.parts.drop i) b.parts) us).1) ∧ Mut (ownB xu (cellsB 4 (bls us))) w w' ∧ w'.heap[xu]? = some (cellsB 4 (bls (asg (covRows (a.parts.drop i) b.parts) us).2))) := by
  intro n
  induction n with
  | zero =>
    intro i us w hn hi hus hw hob
    exact k_find1 a b xa xb xu x7 x8 i us w0 w hw hob hga hgb hi hus ihc (fun vs w1 hlt _ _ _ => absurd hlt (by omega))
  | succ n ih =>
    intro i us w hn hi hus hw hob
    exact k_find1 a b xa xb xu x7 x8 i us w0 w hw hob hga hgb hi hus ihc (fun vs w1 hlt hvl hw1 ho1 => by have h := ih (i + 1) vs w1 (by omega) (by omega) hvl hw1 ho1; exact h)

theorem k_cov1 (a b : ItemV) (g : List (ByteArray × ClassV)) (w : World) (hga : GoodI w a) (hgb : GoodI w b) (hoa : OkG g a) (hob : OkG g b) (ihc : ∀ p ∈ a.parts, ∀ q ∈ b.parts, ∀ w1, Grow w w1 → Calls Tryz.prog 78 #[evI p, evI q] w1 (fun e w' => e = .returned (.bool (covI p q)) ∧ Grow w1 w')) : Calls Tryz.prog 78 #[evI a, evI b] w (fun e w' => e = .returned (.bool (covI a b)) ∧ Grow w w') := by
  have hl1 := hga.rs.len
  have hl2 := hgb.rs.len
  have hf := hob.few
  refine enter_pure (args := [evI a, evI b]) [] Tryz.func78 rfl (by rw [Tryz.ntmps78]; simp) (by simp) ?_
  refine cj_seq (cj_region ?_)
  refine oj_box rfl rfl rfl (fun b2 => ?_)
  refine oj_box rfl rfl rfl (fun b3 => ?_)
  refine oj_step (y_assign rfl) rfl rfl rfl ?_
  refine oj_nil ?_
  refine ej_th (cj_seq (cj_seq ?_))
  refine cj_regionG (gj_step (y_fa0 fa26_0 rfl) rfl rfl rfl (gj_step (y_load1 Tryz.isAgg9 rfl rfl) rfl rfl rfl (gj_step (y_fa0 fa26_0 rfl) rfl rfl rfl (gj_step (y_load1 Tryz.isAgg9 rfl rfl) rfl rfl rfl (gj_step (y_neqS rfl rfl) rfl rfl rfl (gj_nil ?_))))))
  refine ej_th ?_
  refine cj_cond rfl (fun h13 => ?_) (fun h13 => ?_)
  · have h13b := h13
    try simp only [sxb] at h13
    have hce := bytes_ne h13
    refine cj_seq ?_
    refine cj_regionG (gj_step (y_assign rfl) rfl rfl rfl (gj_nil ?_))
    refine ej_th (cj_ret (ej_then_ret ?_))
    exact ej_ret1 rfl Tryz.results78 rfl (fun w' hp => ⟨by rw [covI_eq, decide_eq_false hce]; rfl, hp.below⟩)
  · have h13b := h13
    try simp only [sxb] at h13
    have hce := bytes_eq h13
    have hsl := hoa.says hob hce
    refine cj_rd hga.rs (fun _ h => h) ?_
    refine cj_rd hgb.rs (fun _ h => h) ?_
    refine cj_skip (ej_th (cj_seq (cj_seq ?_)))
    refine cj_regionG (gj_step (y_fa fa26_1 rfl) rfl rfl rfl (gj_step (y_load1 Tryz.isAgg23 rfl rfl) rfl rfl rfl (gj_step (y_lenA Tryz.underlying23 rfl) rfl rfl rfl (gj_step (y_move rfl) rfl rfl rfl (gj_nil ?_)))))
    refine ej_th (cj_block ?_)
    refine cj_lpic (X := Nat) [(2, _), (3, _), (15, _), (16, _)] (fun k => k ≤ a.says.length ∧ saysCov (a.says.drop k) (b.says.drop k) = saysCov a.says b.says) (fun k => [(17, .int .i64 k)]) (fun k => a.says.length - k) 0 (⟨Nat.zero_le _, rfl⟩) ⟨rfl, rfl, rfl, rfl, rfl, trivial⟩ ?_
    rintro k ⟨hk, hsc⟩
    dsimp only [List.cons_append, List.nil_append]
    refine cj_seq ?_
    refine cj_regionG (gj_step (y_lss rfl rfl) rfl rfl rfl (gj_nil ?_))
    refine ej_th (cj_seq ?_)
    refine cj_cond rfl (fun h18 => ?_) (fun h18 => ?_)
    · have h18b := h18
      try simp only [sxb] at h18
      obtain ⟨s, hs⟩ : ∃ s, a.says[k]? = some s := ⟨_, List.getElem?_eq_getElem (by omega)⟩
      obtain ⟨t, ht⟩ : ∃ t, b.says[k]? = some t := ⟨_, List.getElem?_eq_getElem (by omega)⟩
      rw [saysCov_drop _ _ k s t hs ht] at hsc
      refine cj_skip (ej_th (cj_seq (cj_block (cj_seq ?_))))
      refine cj_regionG (gj_step (y_move rfl) rfl rfl rfl (gj_step (y_ixR (reads_sl) Tryz.underlying23 Tryz.sizeOf9 rfl rfl (⟨by omega, by omega⟩)) rfl rfl rfl (gj_step (y_ld0 (reads_sl) Tryz.isAgg9 rfl (hs) rfl) rfl rfl rfl (gj_step (y_assign rfl) rfl rfl rfl (gj_step (y_assign rfl) rfl rfl rfl (gj_nil ?_))))))
      refine ej_th (cj_seq ?_)
      refine cj_regionG (gj_step (y_move rfl) rfl rfl rfl (gj_step (y_neqS rfl rfl) rfl rfl rfl (gj_step (y_move rfl) rfl rfl rfl (gj_g 7 24 31 rfl rfl rfl rfl (fun hg24 => gj_yes rfl rfl rfl (y_move rfl) rfl rfl (gj_yes rfl rfl rfl (y_fa fa26_1 rfl) rfl rfl (gj_yes rfl rfl rfl (y_load1 Tryz.isAgg23 rfl rfl) rfl rfl (gj_yes rfl rfl rfl (y_move rfl) rfl rfl (gj_yes rfl rfl rfl (y_ixR (reads_sl) Tryz.underlying23 Tryz.sizeOf9 rfl rfl (⟨by omega, by omega⟩)) rfl rfl (gj_yes rfl rfl rfl (y_ld0 (reads_sl) Tryz.isAgg9 rfl (ht) rfl) rfl rfl (gj_yes rfl rfl rfl (y_neqS rfl rfl) rfl rfl (gj_nil rfl)))))))) (gj_step (y_and rfl rfl rfl) rfl rfl rfl (gj_nil ?_))))))
      refine ej_th ?_
      refine cj_cond rfl (fun h32 => ?_) (fun h32 => ?_)
      · have h32b := h32
        try simp only [sxb] at h32
        refine cj_seq ?_
        refine cj_regionG (gj_step (y_assign rfl) rfl rfl rfl (gj_nil ?_))
        refine ej_th (cj_ret (ej_blk_ret (ej_then_ret (ej_then_ret (ej_blk_ret (ej_then_ret ?_))))))
        exact ej_ret1 rfl Tryz.results78 rfl (fun w' hp => ⟨by rw [covI_eq, ← hsc, h32b]; simp, hp.below⟩)
      · have h32b := h32
        try simp only [sxb] at h32
        refine cj_skip (ej_blk (ej_th ?_))
        refine cj_regionG (gj_step (y_add rfl rfl (by omega)) rfl rfl rfl (gj_step (y_move rfl) rfl rfl rfl (gj_nil ?_)))
        exact ej_nx (k + 1) (by omega) ⟨by omega, by rw [← hsc, h32b]; rfl⟩ ⟨rfl, rfl, rfl, rfl, rfl, trivial⟩
    · have h18b := h18
      try simp only [sxb] at h18
      refine cj_exit (ej_then_exit (ej_then_exit (ej_blk_hit (ej_th (cj_seq (cj_region ?_))))))
      refine oj_step (y_fa fa26_2 rfl) rfl rfl rfl ?_
      refine oj_step (y_load1 Tryz.isAgg24 rfl rfl) rfl rfl rfl ?_
      refine oj_step (y_lenA Tryz.underlying24 rfl) rfl rfl rfl ?_
      refine oj_makeSlice1 (n := b.parts.length) Tryz.underlying147 Tryz.type4 rfl rfl rfl rfl rfl (by show 1 * b.parts.length ≤ _; omega) (by omega) rfl (fun b37 => ?_)
      refine oj_alloc Tryz.zeroValue147 rfl rfl (fun b7 => ?_)
      refine oj_store rfl rfl rfl rfl Tryz.sizeOf147 rfl ?_
      refine oj_nil ?_
      refine ej_th (cj_seq (cj_region ?_))
      refine oj_alloc Tryz.zeroValue109 rfl rfl (fun b8 => ?_)
      refine oj_nil ?_
      refine ej_th (cj_seq (cj_region ?_))
      refine oj_step (y_makeFunc rfl rfl) rfl rfl rfl ?_
      refine oj_store rfl rfl rfl rfl Tryz.sizeOf109 rfl ?_
      refine oj_nil ?_
      refine ej_th (cj_seq (cj_region ?_))
      refine oj_step (y_load1 Tryz.isAgg109 rfl rfl) rfl rfl rfl ?_
      refine oj_callMV (X := Unit) (b := b37) (fun _ => .bool (asg (covRows (a.parts.drop 0) b.parts) (List.replicate b.parts.length false)).1) (fun _ => cellsB 4 (bls (asg (covRows (a.parts.drop 0) b.parts) (List.replicate b.parts.length false)).2)) rfl rfl ⟨95, #[], _, rfl, Tryz.call95, fun w1 hp => by
        have hu1 : w1.heap[b37]? = some (cellsB 4 (bls (List.replicate b.parts.length false))) := by rw [bls, List.map_replicate]; exact hp.bo
        have hw1 : FindW w w1 a b b2 b3 b37 b7 b8 := ⟨hp.below, ((hp.newB (b := b37)).2 b37 rfl).1, hp.bo, hp.bo, hp.bo, hp.bo, blk_ne (hp.bo (b := b2)) hu1 (by decide), blk_ne (hp.bo (b := b3)) hu1 (by decide), blk_ne (hp.bo (b := b7)) hu1 (by decide), blk_ne (hp.bo (b := b8)) hu1 (by decide)⟩
        have h := k_findA a b b2 b3 b37 b7 b8 w hga hgb ihc _ 0 (List.replicate b.parts.length false) w1 rfl (Nat.zero_le _) (by simp) hw1 hu1
        exact h.mono fun e w' ⟨h1, h2, h3⟩ => ⟨(), h1, ⟨h2.os, h2.tape, h2.output, h2.size, h2.same⟩, h3⟩⟩ rfl (fun _ => ?_)
      refine oj_step (y_assign rfl) rfl rfl rfl ?_
      refine oj_nil ?_
      refine ej_th (cj_ret ?_)
      have hst : saysCov a.says b.says = true := by rw [← hsc, List.drop_of_length_le (show a.says.length ≤ k by omega)]; rfl
      exact ej_ret1 rfl Tryz.results78 rfl (fun w' hp => ⟨by rw [covI_eq, hst, decide_eq_true hce]; rfl, hp.below⟩)

theorem k_cov {w0 : World} {g : List (ByteArray × ClassV)} {a : ItemV} (hga : GoodI w0 a) : ∀ (b : ItemV) (w : World), Grow w0 w → GoodI w b → OkG g a → OkG g b → Calls Tryz.prog 78 #[evI a, evI b] w (fun e w' => e = .returned (.bool (covI a b)) ∧ Grow w w') := by
  induction hga with
  | mk hs hp hn hm hr ih =>
    intro b w hg hgb hoa hob
    exact k_cov1 _ b g w ((GoodI.mk hs hp hn hm hr).mono hg) hgb hoa hob (fun p hpm q hqm w1 hg1 => ih p hpm q w1 (grow_trans hg hg1) ((hgb.pt q hqm).mono hg1) (hoa.pt p hpm) (hob.pt q hqm))

end Go.Proofs.YtlfbghkcfmcnlaaGreatDoor
namespace Go.Proofs.YtlfbghkcfmcnlaaGreatDoor
open Go.Sx Go.RowKit
set_option maxRecDepth 20000

end Go.Proofs.YtlfbghkcfmcnlaaGreatDoor
namespace Go.Proofs.YtlfbghkcfmcnlaaGreatDoor
open Go.Sx Go.RowKit
set_option maxRecDepth 20000
theorem k_Covers (l : List ClassV) (A : Option Addr) (c : Nat) (a b : ItemV) (w : World) (hl : Rd w 4 encCl A l) (hgc : ∀ c ∈ l, GoodC w c) (hga : GoodI w a) (hgb : GoodI w b) : Calls Tryz.prog 41 #[.slice A l.length c, evI a, evI b] w (fun e w' => e = .returned (.tuple #[.bool (CovT l a b), .int .i64 (askIE l [a, b])]) ∧ Grow w w') := by
  refine enter_pure (args := [.slice A l.length c, evI a, evI b]) [sl (fun b => b < w.heap.size) 4 encCl A l] Tryz.func41 rfl (by rw [Tryz.ntmps41]; simp) (fun g hg => by simp at hg; subst hg; exact ⟨hl, fun _ h => h⟩) ?_
  refine cj_seq (cj_region ?_)
  refine oj_box rfl rfl rfl (fun b4 => ?_)
  refine oj_box rfl rfl rfl (fun b5 => ?_)
  refine oj_step (y_assign rfl) rfl rfl rfl ?_
  refine oj_step (y_assign rfl) rfl rfl rfl ?_
  refine oj_nil ?_
  refine ej_th (cj_seq (cj_seq (cj_region ?_)))
  refine oj_step (y_move rfl) rfl rfl rfl ?_
  refine oj_step (y_loadN Tryz.isAgg26 Tryz.sizeOf26 rfl) rfl rfl rfl ?_
  refine oj_step (y_loadN Tryz.isAgg26 Tryz.sizeOf26 rfl) rfl rfl rfl ?_
  refine oj_buildSlice (cs := [.string a.cls, .slice a.As a.says.length a.cs, .slice a.Ap a.parts.length a.cp, .string b.cls, .slice b.As b.says.length b.cs, .slice b.Ap b.parts.length b.cp]) [.string ⟨#[]⟩, .slice none 0 0, .slice none 0 0, .string ⟨#[]⟩, .slice none 0 0, .slice none 0 0] Tryz.underlying24 Tryz.sizeOf26 Tryz.zeroValue26 rfl rfl (by kernel_rfl) (by kernel_rfl) rfl (fun b14 => ?_)
  refine oj_litOw (b := b14) (e := 26) (c := 2) (sz := 3) (enc := encIt) [a, b] rfl rfl rfl (by unfold maxLen; simp) ?_
  refine oj_call (X := Nat) (fun m => .tuple #[.map (bif askIOk l [a, b] then some m else none), .int .i64 (askIE l [a, b])]) (fun _ => []) (fun _ => []) Tryz.call27 rfl (fun w hp => by
    have h := k_pasked l A c [a, b] (some ⟨b14, 0, none⟩) 2 w hp.rd (fun c hc => (hgc c hc).mono hp.below) (hp.rdO (A := some ⟨b14, 0, none⟩) (fun _ => rfl) (by unfold maxLen; simp)) (fun x hx => by
      simp only [List.mem_cons, List.mem_nil_iff, or_false] at hx
      rcases hx with rfl | rfl
      · exact hga.mono hp.below
      · exact hgb.mono hp.below)
    exact h.mono fun e w' ⟨m, he, hg, _⟩ => ⟨m, he, hg, by simp, by simp, by simp⟩) rfl (fun m15 => ?_)
  dsimp only [List.cons_append, List.nil_append]
  refine oj_step (y_move rfl) rfl rfl rfl ?_
  refine oj_step (y_extract rfl rfl) rfl rfl rfl ?_
  refine oj_step (y_extract rfl rfl) rfl rfl rfl ?_
  refine oj_step (y_assign rfl) rfl rfl rfl ?_
  refine oj_step (y_assign rfl) rfl rfl rfl ?_
  refine oj_nil ?_
  refine ej_th (cj_seq ?_)
  refine cj_regionG (gj_step (y_move rfl) rfl rfl rfl (gj_step (y_neq rfl rfl) rfl rfl rfl (gj_nil ?_)))
  refine ej_th ?_
  refine cj_cond rfl (fun h19 => ?_) (fun h19 => ?_)
  · have h19b := h19
    try simp only [sxb] at h19
    have hno := askIE_no h19b
    refine cj_seq ?_
    refine cj_regionG (gj_step (y_move rfl) rfl rfl rfl (gj_step (y_assign rfl) rfl rfl rfl (gj_step (y_assign rfl) rfl rfl rfl (gj_nil ?_))))
    refine ej_th (cj_ret (ej_then_ret ?_))
    have hv : CovT l a b = false := by rw [CovT, hno]; rfl
    exact ej_ret2 rfl Tryz.results41 rfl rfl (fun w' hp => ⟨by rw [hv], hp.below⟩)
  · have h19b := h19
    try simp only [sxb] at h19
    have hok := askIE_ok h19b
    have hoa := ask_okG hok a (by simp)
    have hob := ask_okG hok b (by simp)
    refine cj_skip (ej_th (cj_seq ?_))
    refine cj_regionG ?_
    refine gj_step (y_loadN Tryz.isAgg26 Tryz.sizeOf26 rfl) rfl rfl rfl (gj_step (y_loadN Tryz.isAgg26 Tryz.sizeOf26 rfl) rfl rfl rfl (?_))
    refine gj_step (y_call Tryz.call78 rfl (fun w hp => by have h := k_cov hga b w hp.below (hgb.mono hp.below) hoa hob; exact h)) rfl rfl rfl ?_
    refine gj_step (y_assign rfl) rfl rfl rfl (gj_step (y_assign rfl) rfl rfl rfl (?_))
    refine gj_nil ?_
    refine ej_th (cj_ret ?_)
    have hv : CovT l a b = covI a b := by rw [CovT, hok]; rfl
    have hz : askIE l [a, b] = 0 := by simpa using h19b
    exact ej_ret2 rfl Tryz.results41 rfl rfl (fun w' hp => ⟨by rw [hv, hz], hp.below⟩)

end Go.Proofs.YtlfbghkcfmcnlaaGreatDoor
namespace Go.Proofs.YtlfbghkcfmcnlaaGreatDoor
open Go.Sx Go.RowKit
set_option maxRecDepth 20000
theorem fa52_0 : FieldIs Tryz.prog 52 0 0 1 false := ⟨⟨_, _, Tryz.underlying52, rfl, rfl, Tryz.sizeOf48, Tryz.isAgg48, by decide⟩⟩
theorem fa52_1 : FieldIs Tryz.prog 52 1 1 1 false := ⟨⟨_, _, Tryz.underlying52, rfl, rfl, Tryz.sizeOf49, Tryz.isAgg49, by decide⟩⟩
theorem fa52_2 : FieldIs Tryz.prog 52 2 2 1 false := ⟨⟨_, _, Tryz.underlying52, rfl, rfl, Tryz.sizeOf50, Tryz.isAgg50, by decide⟩⟩
end Go.Proofs.YtlfbghkcfmcnlaaGreatDoor
namespace Go.Proofs.YtlfbghkcfmcnlaaGreatDoor
open Go.Sx Go.RowKit
set_option maxRecDepth 20000
theorem ew_Print (a : GrA) (w : World) (hl : Rd w 4 encCl (at0 a.g12) (gramV a) ∧ ∀ c ∈ gramV a, GoodC w c) (b g c d : Nat) (hx : GoodI w (ringV b sNone g [gemV c sRound, gemV d sNone])) : Calls Tryz.prog 6 #[.slice (some ⟨a.g12, 0, none⟩) 2 2, .agg #[.string sRing, .slice (some ⟨b, 0, none⟩) 2 2, .slice (some ⟨g, 0, none⟩) 2 2]] w (fun e w' => e = .returned (.tuple #[.string sTx1, .int .i64 0]) ∧ Grow w w') := by
  have h := k_Print (gramV a) (at0 a.g12) 2 (ringV b sNone g [gemV c sRound, gemV d sNone]) w hl.1 hl.2 hx
  rw [ex_prn, ex_ask] at h
  exact h
theorem ew_Count (a : GrA) (w : World) (hl : Rd w 4 encCl (at0 a.g12) (gramV a) ∧ ∀ c ∈ gramV a, GoodC w c) (b g c d : Nat) (hx : GoodI w (ringV b sNone g [gemV c sRound, gemV d sNone])) : Calls Tryz.prog 39 #[.slice (some ⟨a.g12, 0, none⟩) 2 2, .agg #[.string sRing, .slice (some ⟨b, 0, none⟩) 2 2, .slice (some ⟨g, 0, none⟩) 2 2]] w (fun e w' => e = .returned (.tuple #[.int .i64 3, .int .i64 2, .int .i64 0]) ∧ Grow w w') := by
  have h := k_Count (gramV a) (at0 a.g12) 2 (ringV b sNone g [gemV c sRound, gemV d sNone]) w hl.1 hl.2 hx
  rw [ex_cntI, ex_cntS, ex_ask] at h
  exact h
theorem ew_Sort (a : GrA) (w : World) (hl : Rd w 4 encCl (at0 a.g12) (gramV a) ∧ ∀ c ∈ gramV a, GoodC w c) (b g c d : Nat) (hx : GoodI w (ringV b sNone g [gemV c sRound, gemV d sNone])) : Calls Tryz.prog 40 #[.slice (some ⟨a.g12, 0, none⟩) 2 2, .agg #[.string sRing, .slice (some ⟨b, 0, none⟩) 2 2, .slice (some ⟨g, 0, none⟩) 2 2]] w (fun e w' => ∃ y : ItemV, e = .returned (.tuple #[evI y, .int .i64 0]) ∧ Grow w w' ∧ y.pl = ringS ∧ GoodF (fun i => w.heap.size ≤ i ∧ i < w'.heap.size) w' y) := by
  have h := k_Sort (gramV a) (at0 a.g12) 2 (ringV b sNone g [gemV c sRound, gemV d sNone]) w hl.1 hl.2 hx
  rw [ex_ask, ex_srt] at h
  exact h
theorem ew_Print2 (a : GrA) (w : World) (hl : Rd w 4 encCl (at0 a.g12) (gramV a) ∧ ∀ c ∈ gramV a, GoodC w c) (y : ItemV) (hx : GoodI w y) (hy : y.pl = ringS) : Calls Tryz.prog 6 #[.slice (some ⟨a.g12, 0, none⟩) 2 2, evI y] w (fun e w' => e = .returned (.tuple #[.string sTx2, .int .i64 0]) ∧ Grow w w') := by
  have h := k_Print (gramV a) (at0 a.g12) 2 y w hl.1 hl.2 hx
  rw [ex_prn2 a hy, ex_ask2 a hy] at h
  exact h
theorem ew_Cov1 (a : GrA) (w : World) (hl : Rd w 4 encCl (at0 a.g12) (gramV a) ∧ ∀ c ∈ gramV a, GoodC w c) (b g c d : Nat) (hx : GoodI w (ringV b sNone g [gemV c sRound, gemV d sNone])) (b2 g2 c2 d2 : Nat) (hy : GoodI w (ringV b2 sSmall g2 [gemV c2 sOval, gemV d2 sRound])) : Calls Tryz.prog 41 #[.slice (some ⟨a.g12, 0, none⟩) 2 2, .agg #[.string sRing, .slice (some ⟨b, 0, none⟩) 2 2, .slice (some ⟨g, 0, none⟩) 2 2], .agg #[.string sRing, .slice (some ⟨b2, 0, none⟩) 2 2, .slice (some ⟨g2, 0, none⟩) 2 2]] w (fun e w' => e = .returned (.tuple #[.bool true, .int .i64 0]) ∧ Grow w w') := by
  have h := k_Covers (gramV a) (at0 a.g12) 2 (ringV b sNone g [gemV c sRound, gemV d sNone]) (ringV b2 sSmall g2 [gemV c2 sOval, gemV d2 sRound]) w hl.1 hl.2 hx hy
  rw [ex_cov1, ex_cov1e] at h
  exact h
theorem ew_Cov2 (a : GrA) (w : World) (hl : Rd w 4 encCl (at0 a.g12) (gramV a) ∧ ∀ c ∈ gramV a, GoodC w c) (b g c d : Nat) (hx : GoodI w (ringV b sNone g [gemV c sRound, gemV d sNone])) (b2 g2 c2 : Nat) (hy : GoodI w (ringV b2 sNone g2 [gemV c2 sNone])) : Calls Tryz.prog 41 #[.slice (some ⟨a.g12, 0, none⟩) 2 2, .agg #[.string sRing, .slice (some ⟨b, 0, none⟩) 2 2, .slice (some ⟨g, 0, none⟩) 2 2], .agg #[.string sRing, .slice (some ⟨b2, 0, none⟩) 2 2, .slice (some ⟨g2, 0, none⟩) 1 1]] w (fun e w' => e = .returned (.tuple #[.bool false, .int .i64 0]) ∧ Grow w w') := by
  have h := k_Covers (gramV a) (at0 a.g12) 2 (ringV b sNone g [gemV c sRound, gemV d sNone]) (ringV b2 sNone g2 [gemV c2 sNone]) w hl.1 hl.2 hx hy
  rw [ex_cov2, ex_cov2e] at h
  exact h
theorem ew_Narrow (A B : Option Addr) (b c : Nat) (w : World) (hm : Rd w 2 encMe A mEx) (hl : Rd w 1 encLs B (rEx b c)) (hgl : ∀ r ∈ rEx b c, GoodL w r) : Calls Tryz.prog 20 #[.slice A 2 2, .slice B 2 2] w (fun e w' => ∃ A c, e = .returned (.tuple #[.slice A (([⟨101, 102⟩, ⟨995, 1005⟩] : List Span)).length c, .int .i64 0]) ∧ Grow w w' ∧ Res w w' 2 encSp A (([⟨101, 102⟩, ⟨995, 1005⟩] : List Span))) := by
  have h := k_Narrow mEx A 2 (rEx b c) B 2 w hm hl hgl
  rw [ex_narL, ex_narE] at h
  exact h
theorem ew_Least (A At Af : Option Addr) (b c : Nat) (w : World) (hm : Rd w 2 encMe A mEx) (ht : Rd w 1 enInt At tEx) (hf : Rd w 1 encFk Af (fEx b c)) (hgf : ∀ f ∈ fEx b c, GoodK w f) : Calls Tryz.prog 24 #[.slice A 2 2, .slice At 2 2, .slice Af 2 2] w (fun e w' => ∃ A c, e = .returned (.tuple #[.slice A (([0, 1] : List Int)).length c, .int .i64 5, .int .i64 0]) ∧ Grow w w' ∧ Res w w' 1 enInt A (([0, 1] : List Int))) := by
  have h := k_Least mEx A 2 tEx At 2 (fEx b c) Af 2 w hm ht hf hgf
  rw [ex_lstS, ex_lstN, ex_lstE] at h
  exact h
theorem ew_Finds (A At : Option Addr) (b : Nat) (w : World) (hm : Rd w 2 encMe A mEx) (ht : Rd w 1 enInt At tEx) (hr : Rd w 2 encSp (at0 b) [⟨90, 93⟩, ⟨900, 1100⟩]) : Calls Tryz.prog 22 #[.slice A 2 2, .slice At 2 2, .agg #[.slice (some ⟨b, 0, none⟩) 2 2]] w (fun e w' => ∃ A c, e = .returned (.tuple #[.slice A (([0] : List Int)).length c, .int .i64 0]) ∧ Grow w w' ∧ Res w w' 1 enInt A (([0] : List Int))) := by
  have h := k_Finds mEx A 2 tEx At 2 ⟨at0 b, 2, [⟨90, 93⟩, ⟨900, 1100⟩]⟩ w hm ht hr
  rw [ex_fndL, ex_fndE] at h
  exact h
theorem ew_Agree (A At B : Option Addr) (w : World) (hm : Rd w 2 encMe A mEx) (ht : Rd w 1 enInt At tEx) (hb : Rd w 1 enInt B [104, 1010]) : Calls Tryz.prog 21 #[.slice A 2 2, .slice At 2 2, .slice B 2 2] w (fun e w' => e = .returned (.tuple #[.bool true, .int .i64 0]) ∧ Grow w w') := by
  have h := k_Agree mEx A 2 tEx [104, 1010] At B 2 2 w hm ht hb
  rw [ex_agrB, ex_agrE] at h
  exact h
theorem ew_Bound (A At Af B : Option Addr) (b c : Nat) (w : World) (hm : Rd w 2 encMe A mEx) (ht : Rd w 1 enInt At tEx) (hf : Rd w 1 encFk Af (fEx b c)) (hgf : ∀ f ∈ fEx b c, GoodK w f) (hb : Rd w 1 enInt B [1, 4]) : Calls Tryz.prog 25 #[.slice A 2 2, .slice At 2 2, .slice Af 2 2, .slice B 2 2] w (fun e w' => e = .returned (.tuple #[.int .i64 5, .int .i64 0]) ∧ Grow w w') := by
  have h := k_Bound mEx A 2 tEx At 2 (fEx b c) Af 2 [1, 4] B 2 w hm ht hf hgf hb
  rw [ex_bndN, ex_bndE] at h
  exact h

set_option maxHeartbeats 8000000 in
theorem k_works  (w : World)  : Calls Tryz.prog 11 #[] w (fun e w' => e = .returned (.bool true) ∧ Grow w w') := by
  refine enter_pure (args := []) [] Tryz.func11 rfl (by rw [Tryz.ntmps11]; simp) (by simp) ?_
  refine cj_seq ?_
  refine cj_regionG (gj_step (y_assign rfl) rfl rfl rfl (gj_nil ?_))
  refine ej_th (cj_seq (cj_region ?_))
  refine oj_call (X := Nat) (fun x => .agg #[.string sGem, .slice (some ⟨x, 0, none⟩) 1 1, .slice none 0 0]) (fun _ => []) (fun x => [litS x 1 enStr [sRound]]) Tryz.call16 rfl (fun w hp => k_gem sRound w) rfl (fun g20 => ?_)
  dsimp only [List.nil_append, List.cons_append]
  refine oj_call (X := Nat) (fun x => .agg #[.string sGem, .slice (some ⟨x, 0, none⟩) 1 1, .slice none 0 0]) (fun _ => []) (fun x => [litS x 1 enStr [sNone]]) Tryz.call16 rfl (fun w hp => k_gem sNone w) rfl (fun g21 => ?_)
  dsimp only [List.nil_append, List.cons_append]
  refine oj_buildSlice (cs := [.string sGem, .slice (some ⟨g20, 0, none⟩) 1 1, .slice none 0 0, .string sGem, .slice (some ⟨g21, 0, none⟩) 1 1, .slice none 0 0]) [.string ⟨#[]⟩, .slice none 0 0, .slice none 0 0, .string ⟨#[]⟩, .slice none 0 0, .slice none 0 0] Tryz.underlying24 Tryz.sizeOf26 Tryz.zeroValue26 rfl rfl (by kernel_rfl) (by kernel_rfl) rfl (fun b22 => ?_)
  refine oj_call (X := Nat) (fun x => .agg #[.string sRing, .slice (some ⟨x, 0, none⟩) 2 2, .slice (some ⟨b22, 0, none⟩) 2 2]) (fun _ => []) (fun x => [litS x 1 enStr [sGold, sNone]]) Tryz.call15 rfl (fun w hp => k_jewel sNone (some ⟨b22, 0, none⟩) 2 2 w) rfl (fun j23 => ?_)
  dsimp only [List.nil_append, List.cons_append]
  refine oj_alloc Tryz.zeroValue26 rfl rfl (fun b1 => ?_)
  refine oj_store rfl rfl rfl rfl Tryz.sizeOf26 rfl ?_
  refine oj_nil ?_
  refine ej_th (cj_seq ?_)
  refine cj_plan 8 (by kernel_rfl) (by kernel_rfl) ?_
  refine pl_y 1 rfl (y_loadN Tryz.isAgg26 Tryz.sizeOf26 rfl) rfl rfl rfl rfl (by kernel_rfl) ?_
  refine pl_w1 0 (by kernel_rfl) rfl rfl (pl_fire rfl rfl rfl (by kernel_rfl) ?_)
  refine oj_call (X := GrA × Nat × Nat) (fun z => .slice (some ⟨z.1.g12, 0, none⟩) 2 2) (fun _ => []) (fun z => [clF (fun i => z.2.1 ≤ i ∧ i < z.2.2) (at0 z.1.g12) (gramV z.1)]) Tryz.call17 rfl (fun w hp => k_grammar w) rfl ?_
  rintro ⟨a25, n25, m25⟩
  dsimp only [List.nil_append, List.cons_append]
  refine oj_nil ?_
  refine ej_pl (lt_y (y_loadN Tryz.isAgg26 Tryz.sizeOf26 rfl) rfl (lt_nil)) ?_
  refine pl_y 2 rfl (y_call Tryz.call6 rfl (fun w hp => ew_Print a25 w (hp_cl hp (fun i => n25 ≤ i ∧ i < m25) (at0 a25.g12) (gramV a25)) j23 b22 g20 g21 (ring_good (b := j23) (g := b22) (s := sNone) (parts := [gemV g20 sRound, gemV g21 sNone]) hp.rd (by decide) (hp.rdLit (b := b22) (sz := 3) (enc := encIt) [gemV g20 sRound, gemV g21 sNone] (fun _ => rfl) rfl (by unfold maxLen; simp)) (fun p hpp => by
    simp only [List.mem_cons, List.mem_nil_iff, or_false] at hpp
    rcases hpp with rfl | rfl
    · exact (gem_good (b := g20) (s := sRound) hp.rd (by decide))
    · exact (gem_good (b := g21) (s := sNone) hp.rd (by decide)))))) rfl rfl rfl rfl (by kernel_rfl) ?_
  refine pl_y 3 rfl (y_move rfl) rfl rfl rfl rfl (by kernel_rfl) ?_
  refine pl_y 4 rfl (y_extract rfl rfl) rfl rfl rfl rfl (by kernel_rfl) ?_
  refine pl_y 5 rfl (y_extract rfl rfl) rfl rfl rfl rfl (by kernel_rfl) ?_
  refine pl_y 6 rfl (y_assign rfl) rfl rfl rfl rfl (by kernel_rfl) ?_
  refine pl_y 7 rfl (y_assign rfl) rfl rfl rfl rfl (by kernel_rfl) ?_
  refine pl_end (by kernel_rfl) ?_
  refine ej_th (cj_seq ?_)
  refine cj_plan 10 (by kernel_rfl) (by kernel_rfl) ?_
  refine pl_y 1 rfl (y_loadN Tryz.isAgg26 Tryz.sizeOf26 rfl) rfl rfl rfl rfl (by kernel_rfl) ?_
  refine pl_w1 0 (by kernel_rfl) rfl rfl (pl_fire rfl rfl rfl (by kernel_rfl) ?_)
  refine oj_call (X := GrA × Nat × Nat) (fun z => .slice (some ⟨z.1.g12, 0, none⟩) 2 2) (fun _ => []) (fun z => [clF (fun i => z.2.1 ≤ i ∧ i < z.2.2) (at0 z.1.g12) (gramV z.1)]) Tryz.call17 rfl (fun w hp => k_grammar w) rfl ?_
  rintro ⟨a31, n31, m31⟩
  dsimp only [List.nil_append, List.cons_append]
  refine oj_nil ?_
  refine ej_pl (lt_y (y_loadN Tryz.isAgg26 Tryz.sizeOf26 rfl) rfl (lt_nil)) ?_
  refine pl_y 2 rfl (y_call Tryz.call39 rfl (fun w hp => ew_Count a31 w (hp_cl hp (fun i => n31 ≤ i ∧ i < m31) (at0 a31.g12) (gramV a31)) j23 b22 g20 g21 (ring_good (b := j23) (g := b22) (s := sNone) (parts := [gemV g20 sRound, gemV g21 sNone]) hp.rd (by decide) (hp.rdLit (b := b22) (sz := 3) (enc := encIt) [gemV g20 sRound, gemV g21 sNone] (fun _ => rfl) rfl (by unfold maxLen; simp)) (fun p hpp => by
    simp only [List.mem_cons, List.mem_nil_iff, or_false] at hpp
    rcases hpp with rfl | rfl
    · exact (gem_good (b := g20) (s := sRound) hp.rd (by decide))
    · exact (gem_good (b := g21) (s := sNone) hp.rd (by decide)))))) rfl rfl rfl rfl (by kernel_rfl) ?_
  refine pl_y 3 rfl (y_move rfl) rfl rfl rfl rfl (by kernel_rfl) ?_
  refine pl_y 4 rfl (y_extract rfl rfl) rfl rfl rfl rfl (by kernel_rfl) ?_
  refine pl_y 5 rfl (y_extract rfl rfl) rfl rfl rfl rfl (by kernel_rfl) ?_
  refine pl_y 6 rfl (y_extract rfl rfl) rfl rfl rfl rfl (by kernel_rfl) ?_
  refine pl_y 7 rfl (y_assign rfl) rfl rfl rfl rfl (by kernel_rfl) ?_
  refine pl_y 8 rfl (y_assign rfl) rfl rfl rfl rfl (by kernel_rfl) ?_
  refine pl_y 9 rfl (y_assign rfl) rfl rfl rfl rfl (by kernel_rfl) ?_
  refine pl_end (by kernel_rfl) ?_
  refine ej_th (cj_seq ?_)
  refine cj_plan 9 (by kernel_rfl) (by kernel_rfl) ?_
  refine pl_y 1 rfl (y_loadN Tryz.isAgg26 Tryz.sizeOf26 rfl) rfl rfl rfl rfl (by kernel_rfl) ?_
  refine pl_w2 0 6 (by kernel_rfl) rfl rfl (pl_fire rfl rfl rfl (by kernel_rfl) ?_) (pl_fire rfl rfl rfl (by kernel_rfl) ?_)
  · refine oj_call (X := GrA × Nat × Nat) (fun z => .slice (some ⟨z.1.g12, 0, none⟩) 2 2) (fun _ => []) (fun z => [clF (fun i => z.2.1 ≤ i ∧ i < z.2.2) (at0 z.1.g12) (gramV z.1)]) Tryz.call17 rfl (fun w hp => k_grammar w) rfl ?_
    rintro ⟨a38, n38, m38⟩
    dsimp only [List.nil_append, List.cons_append]
    refine oj_nil ?_
    refine ej_pl (lt_y (y_loadN Tryz.isAgg26 Tryz.sizeOf26 rfl) rfl (lt_nil)) ?_
    refine pl_w2 2 6 (by kernel_rfl) rfl rfl (pl_fire rfl rfl rfl (by kernel_rfl) ?_) (pl_fire rfl rfl rfl (by kernel_rfl) ?_)
    · refine oj_call (X := { z : ItemV × Nat × Nat // z.1.pl = ringS }) (fun z => .tuple #[evI z.1.1, .int .i64 0]) (fun _ => []) (fun z => [itF (fun i => z.1.2.1 ≤ i ∧ i < z.1.2.2) [z.1.1]]) Tryz.call40 rfl (fun w1 hp => by
        have h := ew_Sort a38 w1 (hp_cl hp (fun i => n38 ≤ i ∧ i < m38) (at0 a38.g12) (gramV a38)) j23 b22 g20 g21 (ring_good (b := j23) (g := b22) (s := sNone) (parts := [gemV g20 sRound, gemV g21 sNone]) hp.rd (by decide) (hp.rdLit (b := b22) (sz := 3) (enc := encIt) [gemV g20 sRound, gemV g21 sNone] (fun _ => rfl) rfl (by unfold maxLen; simp)) (fun p hpp => by
        simp only [List.mem_cons, List.mem_nil_iff, or_false] at hpp
        rcases hpp with rfl | rfl
        · exact (gem_good (b := g20) (s := sRound) hp.rd (by decide))
        · exact (gem_good (b := g21) (s := sNone) hp.rd (by decide))))
        exact h.mono fun e w2 ⟨y, he, hg, hy, hG⟩ => ⟨⟨(y, w1.heap.size, w2.heap.size), hy⟩, he, hg, by simp, by simp, fun f hf => by
          rw [List.mem_singleton.1 hf]
          exact ⟨fun z hz => by rw [List.mem_singleton.1 hz]; exact hG, fun i hi => ⟨hi.1, hi.2, by simp⟩⟩⟩) rfl ?_
      rintro ⟨⟨y, n1, n2⟩, hy⟩
      dsimp only [List.cons_append, List.nil_append] at hy ⊢
      refine oj_nil ?_
      refine ej_pl (lt_w (by kernel_rfl) (lt_nil)) ?_
      refine pl_y 3 rfl (y_move rfl) rfl rfl rfl rfl (by kernel_rfl) ?_
      refine pl_y 4 rfl (y_extract rfl rfl) rfl rfl rfl rfl (by kernel_rfl) ?_
      refine pl_y 5 rfl (y_extract rfl rfl) rfl rfl rfl rfl (by kernel_rfl) ?_
      refine pl_w1 6 (by kernel_rfl) rfl rfl (pl_fire rfl rfl rfl (by kernel_rfl) ?_)
      refine oj_alloc Tryz.zeroValue26 rfl rfl (fun b7 => ?_)
      refine oj_nil ?_
      refine ej_pl (lt_y (y_extract rfl rfl) rfl (lt_y (y_extract rfl rfl) rfl (lt_y (y_move rfl) rfl (lt_y (y_loadN Tryz.isAgg26 Tryz.sizeOf26 rfl) rfl (lt_nil))))) ?_
      refine pl_w1 7 (by kernel_rfl) rfl rfl (pl_fire rfl rfl rfl (by kernel_rfl) ?_)
      refine oj_store rfl rfl rfl rfl Tryz.sizeOf26 rfl ?_
      refine oj_nil ?_
      refine ej_pl (lt_y (y_extract rfl rfl) rfl (lt_w (by kernel_rfl) (lt_w (by kernel_rfl) (lt_w (by kernel_rfl) (lt_nil))))) ?_
      refine pl_y 8 rfl (y_assign rfl) rfl rfl rfl rfl (by kernel_rfl) ?_
      refine pl_end (by kernel_rfl) ?_
      refine ej_th (cj_seq ?_)
      refine cj_plan 8 (by kernel_rfl) (by kernel_rfl) ?_
      refine pl_y 1 rfl (y_loadN Tryz.isAgg26 Tryz.sizeOf26 rfl) rfl rfl rfl rfl (by kernel_rfl) ?_
      refine pl_w1 0 (by kernel_rfl) rfl rfl (pl_fire rfl rfl rfl (by kernel_rfl) ?_)
      refine oj_call (X := GrA × Nat × Nat) (fun z => .slice (some ⟨z.1.g12, 0, none⟩) 2 2) (fun _ => []) (fun z => [clF (fun i => z.2.1 ≤ i ∧ i < z.2.2) (at0 z.1.g12) (gramV z.1)]) Tryz.call17 rfl (fun w hp => k_grammar w) rfl ?_
      rintro ⟨a44, n44, m44⟩
      dsimp only [List.nil_append, List.cons_append]
      refine oj_nil ?_
      refine ej_pl (lt_y (y_loadN Tryz.isAgg26 Tryz.sizeOf26 rfl) rfl (lt_nil)) ?_
      refine pl_y 2 rfl (y_call Tryz.call6 rfl (fun w hp => ew_Print2 a44 w (hp_cl hp (fun i => n44 ≤ i ∧ i < m44) (at0 a44.g12) (gramV a44)) y (hp_it hp (fun i => n1 ≤ i ∧ i < n2) y) hy)) rfl rfl rfl rfl (by kernel_rfl) ?_
      refine pl_y 3 rfl (y_move rfl) rfl rfl rfl rfl (by kernel_rfl) ?_
      refine pl_y 4 rfl (y_extract rfl rfl) rfl rfl rfl rfl (by kernel_rfl) ?_
      refine pl_y 5 rfl (y_extract rfl rfl) rfl rfl rfl rfl (by kernel_rfl) ?_
      refine pl_y 6 rfl (y_assign rfl) rfl rfl rfl rfl (by kernel_rfl) ?_
      refine pl_y 7 rfl (y_assign rfl) rfl rfl rfl rfl (by kernel_rfl) ?_
      refine pl_end (by kernel_rfl) ?_
      refine ej_th (cj_seq (cj_seq (cj_region ?_)))
      refine oj_step (y_move rfl) rfl rfl rfl ?_
      refine oj_step (y_neq rfl rfl) rfl rfl rfl ?_
      refine oj_step (y_move rfl) rfl rfl rfl ?_
      refine oj_yes rfl rfl rfl ?_
      refine oj_step (y_move rfl) rfl rfl rfl ?_
      refine oj_yes rfl rfl rfl ?_
      refine oj_step (y_neq rfl rfl) rfl rfl rfl ?_
      refine oj_step (y_pick rfl rfl rfl) rfl rfl rfl ?_
      refine oj_step (y_move rfl) rfl rfl rfl ?_
      refine oj_yes rfl rfl rfl ?_
      refine oj_step (y_move rfl) rfl rfl rfl ?_
      refine oj_yes rfl rfl rfl ?_
      refine oj_step (y_neq rfl rfl) rfl rfl rfl ?_
      refine oj_step (y_pick rfl rfl rfl) rfl rfl rfl ?_
      refine oj_step (y_move rfl) rfl rfl rfl ?_
      refine oj_yes rfl rfl rfl ?_
      refine oj_step (y_move rfl) rfl rfl rfl ?_
      refine oj_yes rfl rfl rfl ?_
      refine oj_step (y_neq rfl rfl) rfl rfl rfl ?_
      refine oj_step (y_pick rfl rfl rfl) rfl rfl rfl ?_
      refine oj_step (y_move rfl) rfl rfl rfl ?_
      refine oj_yes rfl rfl rfl ?_
      refine oj_step (y_move rfl) rfl rfl rfl ?_
      refine oj_yes rfl rfl rfl ?_
      refine oj_step (y_neqS rfl rfl) rfl rfl rfl ?_
      refine oj_step (y_pick rfl rfl rfl) rfl rfl rfl ?_
      refine oj_step (y_move rfl) rfl rfl rfl ?_
      refine oj_yes rfl rfl rfl ?_
      refine oj_step (y_move rfl) rfl rfl rfl ?_
      refine oj_yes rfl rfl rfl ?_
      refine oj_step (y_neq rfl rfl) rfl rfl rfl ?_
      refine oj_step (y_pick rfl rfl rfl) rfl rfl rfl ?_
      refine oj_step (y_move rfl) rfl rfl rfl ?_
      refine oj_yes rfl rfl rfl ?_
      refine oj_step (y_move rfl) rfl rfl rfl ?_
      refine oj_yes rfl rfl rfl ?_
      refine oj_step (y_neq rfl rfl) rfl rfl rfl ?_
      refine oj_step (y_pick rfl rfl rfl) rfl rfl rfl ?_
      refine oj_step (y_move rfl) rfl rfl rfl ?_
      refine oj_yes rfl rfl rfl ?_
      refine oj_step (y_move rfl) rfl rfl rfl ?_
      refine oj_yes rfl rfl rfl ?_
      refine oj_step (y_neqS rfl rfl) rfl rfl rfl ?_
      refine oj_step (y_pick rfl rfl rfl) rfl rfl rfl ?_
      refine oj_nil ?_
      refine ej_th ?_
      refine cj_cond rfl (fun h78 => ?_) (fun h78 => ?_)
      · exact absurd h78 (by decide)
      · have h78b := h78
        try simp only [sxb] at h78
        refine cj_skip (ej_th (cj_seq ?_))
        refine cj_plan 12 (by kernel_rfl) (by kernel_rfl) ?_
        refine pl_y 1 rfl (y_loadN Tryz.isAgg26 Tryz.sizeOf26 rfl) rfl rfl rfl rfl (by kernel_rfl) ?_
        refine pl_w1 0 (by kernel_rfl) rfl rfl (pl_fire rfl rfl rfl (by kernel_rfl) ?_)
        refine oj_call (X := GrA × Nat × Nat) (fun z => .slice (some ⟨z.1.g12, 0, none⟩) 2 2) (fun _ => []) (fun z => [clF (fun i => z.2.1 ≤ i ∧ i < z.2.2) (at0 z.1.g12) (gramV z.1)]) Tryz.call17 rfl (fun w hp => k_grammar w) rfl ?_
        rintro ⟨a80, n80, m80⟩
        dsimp only [List.nil_append, List.cons_append]
        refine oj_nil ?_
        refine ej_pl (lt_y (y_loadN Tryz.isAgg26 Tryz.sizeOf26 rfl) rfl (lt_nil)) ?_
        refine pl_w1 2 (by kernel_rfl) rfl rfl (pl_fire rfl rfl rfl (by kernel_rfl) ?_)
        refine oj_call (X := Nat) (fun x => .agg #[.string sGem, .slice (some ⟨x, 0, none⟩) 1 1, .slice none 0 0]) (fun _ => []) (fun x => [litS x 1 enStr [sOval]]) Tryz.call16 rfl (fun w hp => k_gem sOval w) rfl (fun g82 => ?_)
        dsimp only [List.nil_append, List.cons_append]
        refine oj_nil ?_
        refine ej_pl (lt_y (y_loadN Tryz.isAgg26 Tryz.sizeOf26 rfl) rfl (lt_nil)) ?_
        refine pl_w1 3 (by kernel_rfl) rfl rfl (pl_fire rfl rfl rfl (by kernel_rfl) ?_)
        refine oj_call (X := Nat) (fun x => .agg #[.string sGem, .slice (some ⟨x, 0, none⟩) 1 1, .slice none 0 0]) (fun _ => []) (fun x => [litS x 1 enStr [sRound]]) Tryz.call16 rfl (fun w hp => k_gem sRound w) rfl (fun g83 => ?_)
        dsimp only [List.nil_append, List.cons_append]
        refine oj_nil ?_
        refine ej_pl (lt_y (y_loadN Tryz.isAgg26 Tryz.sizeOf26 rfl) rfl (lt_nil)) ?_
        refine pl_w1 4 (by kernel_rfl) rfl rfl (pl_fire rfl rfl rfl (by kernel_rfl) ?_)
        refine oj_buildSlice (cs := [.string sGem, .slice (some ⟨g82, 0, none⟩) 1 1, .slice none 0 0, .string sGem, .slice (some ⟨g83, 0, none⟩) 1 1, .slice none 0 0]) [.string ⟨#[]⟩, .slice none 0 0, .slice none 0 0, .string ⟨#[]⟩, .slice none 0 0, .slice none 0 0] Tryz.underlying24 Tryz.sizeOf26 Tryz.zeroValue26 rfl rfl (by kernel_rfl) (by kernel_rfl) rfl (fun b84 => ?_)
        refine oj_nil ?_
        refine ej_pl (lt_y (y_loadN Tryz.isAgg26 Tryz.sizeOf26 rfl) rfl (lt_nil)) ?_
        refine pl_w1 5 (by kernel_rfl) rfl rfl (pl_fire rfl rfl rfl (by kernel_rfl) ?_)
        refine oj_call (X := Nat) (fun x => .agg #[.string sRing, .slice (some ⟨x, 0, none⟩) 2 2, .slice (some ⟨b84, 0, none⟩) 2 2]) (fun _ => []) (fun x => [litS x 1 enStr [sGold, sSmall]]) Tryz.call15 rfl (fun w hp => k_jewel sSmall (some ⟨b84, 0, none⟩) 2 2 w) rfl (fun j85 => ?_)
        dsimp only [List.nil_append, List.cons_append]
        refine oj_nil ?_
        refine ej_pl (lt_y (y_loadN Tryz.isAgg26 Tryz.sizeOf26 rfl) rfl (lt_nil)) ?_
        refine pl_y 6 rfl (y_call Tryz.call41 rfl (fun w hp => ew_Cov1 a80 w (hp_cl hp (fun i => n80 ≤ i ∧ i < m80) (at0 a80.g12) (gramV a80)) j23 b22 g20 g21 (ring_good (b := j23) (g := b22) (s := sNone) (parts := [gemV g20 sRound, gemV g21 sNone]) hp.rd (by decide) (hp.rdLit (b := b22) (sz := 3) (enc := encIt) [gemV g20 sRound, gemV g21 sNone] (fun _ => rfl) rfl (by unfold maxLen; simp)) (fun p hpp => by
          simp only [List.mem_cons, List.mem_nil_iff, or_false] at hpp
          rcases hpp with rfl | rfl
          · exact (gem_good (b := g20) (s := sRound) hp.rd (by decide))
          · exact (gem_good (b := g21) (s := sNone) hp.rd (by decide)))) j85 b84 g82 g83 (ring_good (b := j85) (g := b84) (s := sSmall) (parts := [gemV g82 sOval, gemV g83 sRound]) hp.rd (by decide) (hp.rdLit (b := b84) (sz := 3) (enc := encIt) [gemV g82 sOval, gemV g83 sRound] (fun _ => rfl) rfl (by unfold maxLen; simp)) (fun p hpp => by
          simp only [List.mem_cons, List.mem_nil_iff, or_false] at hpp
          rcases hpp with rfl | rfl
          · exact (gem_good (b := g82) (s := sOval) hp.rd (by decide))
          · exact (gem_good (b := g83) (s := sRound) hp.rd (by decide)))))) rfl rfl rfl rfl (by kernel_rfl) ?_
        refine pl_y 7 rfl (y_move rfl) rfl rfl rfl rfl (by kernel_rfl) ?_
        refine pl_y 8 rfl (y_extract rfl rfl) rfl rfl rfl rfl (by kernel_rfl) ?_
        refine pl_y 9 rfl (y_extract rfl rfl) rfl rfl rfl rfl (by kernel_rfl) ?_
        refine pl_y 10 rfl (y_assign rfl) rfl rfl rfl rfl (by kernel_rfl) ?_
        refine pl_y 11 rfl (y_assign rfl) rfl rfl rfl rfl (by kernel_rfl) ?_
        refine pl_end (by kernel_rfl) ?_
        refine ej_th (cj_seq ?_)
        refine cj_plan 11 (by kernel_rfl) (by kernel_rfl) ?_
        refine pl_y 1 rfl (y_loadN Tryz.isAgg26 Tryz.sizeOf26 rfl) rfl rfl rfl rfl (by kernel_rfl) ?_
        refine pl_w1 0 (by kernel_rfl) rfl rfl (pl_fire rfl rfl rfl (by kernel_rfl) ?_)
        refine oj_call (X := GrA × Nat × Nat) (fun z => .slice (some ⟨z.1.g12, 0, none⟩) 2 2) (fun _ => []) (fun z => [clF (fun i => z.2.1 ≤ i ∧ i < z.2.2) (at0 z.1.g12) (gramV z.1)]) Tryz.call17 rfl (fun w hp => k_grammar w) rfl ?_
        rintro ⟨a90, n90, m90⟩
        dsimp only [List.nil_append, List.cons_append]
        refine oj_nil ?_
        refine ej_pl (lt_y (y_loadN Tryz.isAgg26 Tryz.sizeOf26 rfl) rfl (lt_nil)) ?_
        refine pl_w1 2 (by kernel_rfl) rfl rfl (pl_fire rfl rfl rfl (by kernel_rfl) ?_)
        refine oj_call (X := Nat) (fun x => .agg #[.string sGem, .slice (some ⟨x, 0, none⟩) 1 1, .slice none 0 0]) (fun _ => []) (fun x => [litS x 1 enStr [sNone]]) Tryz.call16 rfl (fun w hp => k_gem sNone w) rfl (fun g92 => ?_)
        dsimp only [List.nil_append, List.cons_append]
        refine oj_nil ?_
        refine ej_pl (lt_y (y_loadN Tryz.isAgg26 Tryz.sizeOf26 rfl) rfl (lt_nil)) ?_
        refine pl_w1 3 (by kernel_rfl) rfl rfl (pl_fire rfl rfl rfl (by kernel_rfl) ?_)
        refine oj_buildSlice (cs := [.string sGem, .slice (some ⟨g92, 0, none⟩) 1 1, .slice none 0 0]) [.string ⟨#[]⟩, .slice none 0 0, .slice none 0 0] Tryz.underlying24 Tryz.sizeOf26 Tryz.zeroValue26 rfl rfl (by kernel_rfl) (by kernel_rfl) rfl (fun b93 => ?_)
        refine oj_nil ?_
        refine ej_pl (lt_y (y_loadN Tryz.isAgg26 Tryz.sizeOf26 rfl) rfl (lt_nil)) ?_
        refine pl_w1 4 (by kernel_rfl) rfl rfl (pl_fire rfl rfl rfl (by kernel_rfl) ?_)
        refine oj_call (X := Nat) (fun x => .agg #[.string sRing, .slice (some ⟨x, 0, none⟩) 2 2, .slice (some ⟨b93, 0, none⟩) 1 1]) (fun _ => []) (fun x => [litS x 1 enStr [sGold, sNone]]) Tryz.call15 rfl (fun w hp => k_jewel sNone (some ⟨b93, 0, none⟩) 1 1 w) rfl (fun j94 => ?_)
        dsimp only [List.nil_append, List.cons_append]
        refine oj_nil ?_
        refine ej_pl (lt_y (y_loadN Tryz.isAgg26 Tryz.sizeOf26 rfl) rfl (lt_nil)) ?_
        refine pl_y 5 rfl (y_call Tryz.call41 rfl (fun w hp => ew_Cov2 a90 w (hp_cl hp (fun i => n90 ≤ i ∧ i < m90) (at0 a90.g12) (gramV a90)) j23 b22 g20 g21 (ring_good (b := j23) (g := b22) (s := sNone) (parts := [gemV g20 sRound, gemV g21 sNone]) hp.rd (by decide) (hp.rdLit (b := b22) (sz := 3) (enc := encIt) [gemV g20 sRound, gemV g21 sNone] (fun _ => rfl) rfl (by unfold maxLen; simp)) (fun p hpp => by
          simp only [List.mem_cons, List.mem_nil_iff, or_false] at hpp
          rcases hpp with rfl | rfl
          · exact (gem_good (b := g20) (s := sRound) hp.rd (by decide))
          · exact (gem_good (b := g21) (s := sNone) hp.rd (by decide)))) j94 b93 g92 (ring_good (b := j94) (g := b93) (s := sNone) (parts := [gemV g92 sNone]) hp.rd (by decide) (hp.rdLit (b := b93) (sz := 3) (enc := encIt) [gemV g92 sNone] (fun _ => rfl) rfl (by unfold maxLen; simp)) (fun p hpp => by
          simp only [List.mem_cons, List.mem_nil_iff, or_false] at hpp
          rcases hpp with rfl
          · exact (gem_good (b := g92) (s := sNone) hp.rd (by decide)))))) rfl rfl rfl rfl (by kernel_rfl) ?_
        refine pl_y 6 rfl (y_move rfl) rfl rfl rfl rfl (by kernel_rfl) ?_
        refine pl_y 7 rfl (y_extract rfl rfl) rfl rfl rfl rfl (by kernel_rfl) ?_
        refine pl_y 8 rfl (y_extract rfl rfl) rfl rfl rfl rfl (by kernel_rfl) ?_
        refine pl_y 9 rfl (y_assign rfl) rfl rfl rfl rfl (by kernel_rfl) ?_
        refine pl_y 10 rfl (y_assign rfl) rfl rfl rfl rfl (by kernel_rfl) ?_
        refine pl_end (by kernel_rfl) ?_
        refine ej_th (cj_seq (cj_region ?_))
        refine oj_call (X := Nat × Nat × Nat × Nat × Nat) (fun z => .agg #[.slice (some ⟨z.1, 0, none⟩) 2 2, .slice (some ⟨z.2.1, 0, none⟩) 2 2, .slice (some ⟨z.2.2.1, 0, none⟩) 2 2]) (fun _ => []) (fun z => [litS z.1 2 encMe mEx, litS z.2.1 1 enInt tEx, litS z.2.2.1 1 encFk (fEx z.2.2.2.1 z.2.2.2.2), litS z.2.2.2.1 2 encSp [⟨90, 93⟩, ⟨900, 1100⟩], litS z.2.2.2.2 2 encSp [⟨95, 105⟩, ⟨1016, 1030⟩]]) Tryz.call19 rfl (fun w hp => k_skillEx w) rfl ?_
        rintro ⟨mm, mt, mf, m1, m2⟩
        dsimp only [List.nil_append, List.cons_append]
        refine oj_alloc Tryz.zeroValue52 rfl rfl (fun b13 => ?_)
        refine oj_store rfl rfl rfl rfl Tryz.sizeOf52 rfl ?_
        refine oj_nil ?_
        refine ej_th (cj_seq (cj_region ?_))
        refine oj_step (y_fa0 fa52_0 rfl) rfl rfl rfl ?_
        refine oj_step (y_load1 Tryz.isAgg48 rfl rfl) rfl rfl rfl ?_
        refine oj_buildSlice (cs := [.int .i64 100, .int .i64 1000]) [.int .i64 0, .int .i64 0] Tryz.underlying49 Tryz.sizeOf3 Tryz.zeroValue3 rfl rfl (by kernel_rfl) (by kernel_rfl) rfl (fun b102 => ?_)
        refine oj_buildSlice (cs := [.int .i64 103, .int .i64 (-1)]) [.int .i64 0, .int .i64 0] Tryz.underlying49 Tryz.sizeOf3 Tryz.zeroValue3 rfl rfl (by kernel_rfl) (by kernel_rfl) rfl (fun b103 => ?_)
        refine oj_buildSlice (cs := [.slice (some ⟨b102, 0, none⟩) 2 2, .slice (some ⟨b103, 0, none⟩) 2 2]) [.slice none 0 0, .slice none 0 0] Tryz.underlying57 Tryz.sizeOf49 Tryz.zeroValue49 rfl rfl (by kernel_rfl) (by kernel_rfl) rfl (fun b104 => ?_)
        refine oj_callS (fun A c => .tuple #[.slice A ([⟨101, 102⟩, ⟨995, 1005⟩] : List Span).length c, .int .i64 0]) 2 encSp ([⟨101, 102⟩, ⟨995, 1005⟩] : List Span) Tryz.call20 rfl (fun w hp => ew_Narrow (some ⟨mm, 0, none⟩) (some ⟨b104, 0, none⟩) b102 b103 w hp.rd (hp.rdLit (b := b104) (sz := 1) (enc := encLs) (rEx b102 b103) (fun _ => rfl) rfl (by unfold maxLen; simp)) (fun r hr => by
          simp only [List.mem_cons, List.mem_nil_iff, or_false] at hr
          rcases hr with rfl | rfl
          · exact (hp.rdLit (b := b102) (sz := 1) (enc := enInt) [100, 1000] (fun _ => rfl) rfl (by unfold maxLen; simp))
          · exact (hp.rdLit (b := b103) (sz := 1) (enc := enInt) [103, -1] (fun _ => rfl) rfl (by unfold maxLen; simp)))) rfl (fun A105 c105 fp105 hfp105 => ?_)
        refine oj_step (y_move rfl) rfl rfl rfl ?_
        refine oj_step (y_extract rfl rfl) rfl rfl rfl ?_
        refine oj_step (y_extract rfl rfl) rfl rfl rfl ?_
        refine oj_step (y_assign rfl) rfl rfl rfl ?_
        refine oj_step (y_assign rfl) rfl rfl rfl ?_
        refine oj_nil ?_
        refine ej_th (cj_seq (cj_region ?_))
        refine oj_step (y_fa0 fa52_0 rfl) rfl rfl rfl ?_
        refine oj_step (y_load1 Tryz.isAgg48 rfl rfl) rfl rfl rfl ?_
        refine oj_step (y_fa fa52_1 rfl) rfl rfl rfl ?_
        refine oj_step (y_load1 Tryz.isAgg49 rfl rfl) rfl rfl rfl ?_
        refine oj_step (y_fa fa52_2 rfl) rfl rfl rfl ?_
        refine oj_step (y_load1 Tryz.isAgg50 rfl rfl) rfl rfl rfl ?_
        refine oj_callS (fun A c => .tuple #[.slice A ([0, 1] : List Int).length c, .int .i64 5, .int .i64 0]) 1 enInt ([0, 1] : List Int) Tryz.call24 rfl (fun w hp => ew_Least (some ⟨mm, 0, none⟩) (some ⟨mt, 0, none⟩) (some ⟨mf, 0, none⟩) m1 m2 w hp.rd hp.rd hp.rd (fun f hff => by
          simp only [List.mem_cons, List.mem_nil_iff, or_false] at hff
          rcases hff with rfl | rfl
          · exact hp.rd
          · exact hp.rd)) rfl (fun A115 c115 fp115 hfp115 => ?_)
        refine oj_step (y_move rfl) rfl rfl rfl ?_
        refine oj_step (y_extract rfl rfl) rfl rfl rfl ?_
        refine oj_step (y_extract rfl rfl) rfl rfl rfl ?_
        refine oj_step (y_extract rfl rfl) rfl rfl rfl ?_
        refine oj_step (y_assign rfl) rfl rfl rfl ?_
        refine oj_step (y_assign rfl) rfl rfl rfl ?_
        refine oj_step (y_assign rfl) rfl rfl rfl ?_
        refine oj_nil ?_
        refine ej_th (cj_seq (cj_seq (cj_region ?_)))
        refine oj_step (y_move rfl) rfl rfl rfl ?_
        refine oj_step (y_neq rfl rfl) rfl rfl rfl ?_
        refine oj_step (y_move rfl) rfl rfl rfl ?_
        refine oj_yes rfl rfl rfl ?_
        refine oj_step (y_move rfl) rfl rfl rfl ?_
        refine oj_yes rfl rfl rfl ?_
        refine oj_step (y_neq rfl rfl) rfl rfl rfl ?_
        refine oj_step (y_pick rfl rfl rfl) rfl rfl rfl ?_
        refine oj_step (y_move rfl) rfl rfl rfl ?_
        refine oj_yes rfl rfl rfl ?_
        refine oj_step (y_move rfl) rfl rfl rfl ?_
        refine oj_yes rfl rfl rfl ?_
        refine oj_step (y_neq rfl rfl) rfl rfl rfl ?_
        refine oj_step (y_pick rfl rfl rfl) rfl rfl rfl ?_
        refine oj_step (y_move rfl) rfl rfl rfl ?_
        refine oj_yes rfl rfl rfl ?_
        refine oj_step (y_move rfl) rfl rfl rfl ?_
        refine oj_yes rfl rfl rfl ?_
        refine oj_step (y_neq rfl rfl) rfl rfl rfl ?_
        refine oj_step (y_pick rfl rfl rfl) rfl rfl rfl ?_
        refine oj_step (y_move rfl) rfl rfl rfl ?_
        refine oj_yes rfl rfl rfl ?_
        refine oj_step (y_move rfl) rfl rfl rfl ?_
        refine oj_yes rfl rfl rfl ?_
        refine oj_step (y_not rfl) rfl rfl rfl ?_
        refine oj_step (y_pick rfl rfl rfl) rfl rfl rfl ?_
        refine oj_step (y_move rfl) rfl rfl rfl ?_
        refine oj_yes rfl rfl rfl ?_
        refine oj_step (y_move rfl) rfl rfl rfl ?_
        refine oj_step (y_pick rfl rfl rfl) rfl rfl rfl ?_
        refine oj_step (y_move rfl) rfl rfl rfl ?_
        refine oj_yes rfl rfl rfl ?_
        refine oj_step (y_move rfl) rfl rfl rfl ?_
        refine oj_yes rfl rfl rfl ?_
        refine oj_step (y_build (cs := [.int .i64 101, .int .i64 102]) st70 rfl (by kernel_rfl)) rfl rfl rfl ?_
        refine oj_yes rfl rfl rfl ?_
        refine oj_step (y_build (cs := [.int .i64 995, .int .i64 1005]) st70 rfl (by kernel_rfl)) rfl rfl rfl ?_
        refine oj_yes rfl rfl rfl ?_
        refine oj_buildSlice (cs := [.int .i64 101, .int .i64 102, .int .i64 995, .int .i64 1005]) [.int .i64 0, .int .i64 0, .int .i64 0, .int .i64 0] Tryz.underlying54 Tryz.sizeOf70 Tryz.zeroValue70 rfl rfl (by kernel_rfl) (by kernel_rfl) rfl (fun b144 => ?_)
        refine oj_yes rfl rfl rfl ?_
        refine oj_step (y_call Tryz.call42 rfl (fun w hp => k_SameSp ([⟨101, 102⟩, ⟨995, 1005⟩] : List Span) ([⟨101, 102⟩, ⟨995, 1005⟩] : List Span) A105 (some ⟨b144, 0, none⟩) c105 2 w hp.rd (hp.rdLit (b := b144) (sz := 2) (enc := encSp) ([⟨101, 102⟩, ⟨995, 1005⟩] : List Span) (fun _ => rfl) rfl (by unfold maxLen; simp)))) rfl rfl rfl ?_
        refine oj_yes rfl rfl rfl ?_
        refine oj_step (y_not rfl) rfl rfl rfl ?_
        refine oj_step (y_pick rfl rfl rfl) rfl rfl rfl ?_
        refine oj_step (y_move rfl) rfl rfl rfl ?_
        refine oj_yes rfl rfl rfl ?_
        refine oj_step (y_move rfl) rfl rfl rfl ?_
        refine oj_yes rfl rfl rfl ?_
        refine oj_buildSlice (cs := [.int .i64 0, .int .i64 1]) [.int .i64 0, .int .i64 0] Tryz.underlying49 Tryz.sizeOf3 Tryz.zeroValue3 rfl rfl (by kernel_rfl) (by kernel_rfl) rfl (fun b150 => ?_)
        refine oj_yes rfl rfl rfl ?_
        refine oj_step (y_call Tryz.call26 rfl (fun w hp => k_Same ([0, 1] : List Int) ([0, 1] : List Int) A115 (some ⟨b150, 0, none⟩) c115 2 w hp.rd (hp.rdLit (b := b150) (sz := 1) (enc := enInt) ([0, 1] : List Int) (fun _ => rfl) rfl (by unfold maxLen; simp)))) rfl rfl rfl ?_
        refine oj_yes rfl rfl rfl ?_
        refine oj_step (y_not rfl) rfl rfl rfl ?_
        refine oj_step (y_pick rfl rfl rfl) rfl rfl rfl ?_
        refine oj_step (y_move rfl) rfl rfl rfl ?_
        refine oj_yes rfl rfl rfl ?_
        refine oj_step (y_move rfl) rfl rfl rfl ?_
        refine oj_yes rfl rfl rfl ?_
        refine oj_step (y_neq rfl rfl) rfl rfl rfl ?_
        refine oj_step (y_pick rfl rfl rfl) rfl rfl rfl ?_
        refine oj_nil ?_
        refine ej_th ?_
        refine cj_cond rfl (fun h157 => ?_) (fun h157 => ?_)
        · exact absurd h157 (by decide)
        · have h157b := h157
          try simp only [sxb] at h157
          refine cj_skip (ej_th (cj_seq ?_))
          refine cj_plan 14 (by kernel_rfl) (by kernel_rfl) ?_
          refine pl_y 0 rfl (y_fa0 fa52_0 rfl) rfl rfl rfl rfl (by kernel_rfl) ?_
          refine pl_y 1 rfl (y_load1 Tryz.isAgg48 rfl rfl) rfl rfl rfl rfl (by kernel_rfl) ?_
          refine pl_y 2 rfl (y_fa fa52_1 rfl) rfl rfl rfl rfl (by kernel_rfl) ?_
          refine pl_y 3 rfl (y_load1 Tryz.isAgg49 rfl rfl) rfl rfl rfl rfl (by kernel_rfl) ?_
          refine pl_y 4 rfl (y_fa fa52_2 rfl) rfl rfl rfl rfl (by kernel_rfl) ?_
          refine pl_y 5 rfl (y_load1 Tryz.isAgg50 rfl rfl) rfl rfl rfl rfl (by kernel_rfl) ?_
          refine pl_y 6 rfl (y_ixR (reads_sl (xs := fEx m1 m2) (enc := encFk) (sz := 1)) Tryz.underlying50 Tryz.sizeOf63 rfl rfl ⟨by decide, show (0 : Int) < ((2 : Nat) : Int) by decide⟩) rfl rfl rfl rfl (by kernel_rfl) ?_
          refine pl_y 7 rfl (y_ldW (reads_sl) Tryz.isAgg63 Tryz.sizeOf63 rfl (rfl) (fun _ => rfl)) rfl rfl rfl rfl (by kernel_rfl) ?_
          refine pl_w1 8 (by kernel_rfl) rfl rfl (pl_fire rfl rfl rfl (by kernel_rfl) ?_)
          refine oj_callS (fun A c => .tuple #[.slice A ([0] : List Int).length c, .int .i64 0]) 1 enInt ([0] : List Int) Tryz.call22 rfl (fun w hp => ew_Finds (some ⟨mm, 0, none⟩) (some ⟨mt, 0, none⟩) m1 w hp.rd hp.rd hp.rd) rfl (fun A167 c167 fp167 hfp167 => ?_)
          refine oj_nil ?_
          refine ej_pl (lt_w (by kernel_rfl) (lt_y (y_ixR (reads_sl (xs := fEx m1 m2) (enc := encFk) (sz := 1)) Tryz.underlying50 Tryz.sizeOf63 rfl rfl ⟨by decide, show (0 : Int) < ((2 : Nat) : Int) by decide⟩) rfl (lt_y (y_load1 Tryz.isAgg50 rfl rfl) rfl (lt_y (y_fa fa52_2 rfl) rfl (lt_w (by kernel_rfl) (lt_y (y_fa fa52_1 rfl) rfl (lt_w (by kernel_rfl) (lt_y (y_fa0 fa52_0 rfl) rfl (lt_nil))))))))) ?_
          refine pl_y 9 rfl (y_move rfl) rfl rfl rfl rfl (by kernel_rfl) ?_
          refine pl_y 10 rfl (y_extract rfl rfl) rfl rfl rfl rfl (by kernel_rfl) ?_
          refine pl_y 11 rfl (y_extract rfl rfl) rfl rfl rfl rfl (by kernel_rfl) ?_
          refine pl_y 12 rfl (y_assign rfl) rfl rfl rfl rfl (by kernel_rfl) ?_
          refine pl_y 13 rfl (y_assign rfl) rfl rfl rfl rfl (by kernel_rfl) ?_
          refine pl_end (by kernel_rfl) ?_
          refine ej_th (cj_seq (cj_region ?_))
          refine oj_step (y_fa0 fa52_0 rfl) rfl rfl rfl ?_
          refine oj_step (y_load1 Tryz.isAgg48 rfl rfl) rfl rfl rfl ?_
          refine oj_step (y_fa fa52_1 rfl) rfl rfl rfl ?_
          refine oj_step (y_load1 Tryz.isAgg49 rfl rfl) rfl rfl rfl ?_
          refine oj_buildSlice (cs := [.int .i64 104, .int .i64 1010]) [.int .i64 0, .int .i64 0] Tryz.underlying49 Tryz.sizeOf3 Tryz.zeroValue3 rfl rfl (by kernel_rfl) (by kernel_rfl) rfl (fun b175 => ?_)
          refine oj_step (y_call Tryz.call21 rfl (fun w hp => ew_Agree (some ⟨mm, 0, none⟩) (some ⟨mt, 0, none⟩) (some ⟨b175, 0, none⟩) w hp.rd hp.rd (hp.rdLit (b := b175) (sz := 1) (enc := enInt) [104, 1010] (fun _ => rfl) rfl (by unfold maxLen; simp)))) rfl rfl rfl ?_
          refine oj_step (y_move rfl) rfl rfl rfl ?_
          refine oj_step (y_extract rfl rfl) rfl rfl rfl ?_
          refine oj_step (y_extract rfl rfl) rfl rfl rfl ?_
          refine oj_step (y_assign rfl) rfl rfl rfl ?_
          refine oj_step (y_assign rfl) rfl rfl rfl ?_
          refine oj_nil ?_
          refine ej_th (cj_seq (cj_region ?_))
          refine oj_step (y_fa0 fa52_0 rfl) rfl rfl rfl ?_
          refine oj_step (y_load1 Tryz.isAgg48 rfl rfl) rfl rfl rfl ?_
          refine oj_step (y_fa fa52_1 rfl) rfl rfl rfl ?_
          refine oj_step (y_load1 Tryz.isAgg49 rfl rfl) rfl rfl rfl ?_
          refine oj_step (y_fa fa52_2 rfl) rfl rfl rfl ?_
          refine oj_step (y_load1 Tryz.isAgg50 rfl rfl) rfl rfl rfl ?_
          refine oj_buildSlice (cs := [.int .i64 1, .int .i64 4]) [.int .i64 0, .int .i64 0] Tryz.underlying49 Tryz.sizeOf3 Tryz.zeroValue3 rfl rfl (by kernel_rfl) (by kernel_rfl) rfl (fun b186 => ?_)
          refine oj_step (y_call Tryz.call25 rfl (fun w hp => ew_Bound (some ⟨mm, 0, none⟩) (some ⟨mt, 0, none⟩) (some ⟨mf, 0, none⟩) (some ⟨b186, 0, none⟩) m1 m2 w hp.rd hp.rd hp.rd (fun f hff => by
            simp only [List.mem_cons, List.mem_nil_iff, or_false] at hff
            rcases hff with rfl | rfl
            · exact hp.rd
            · exact hp.rd) (hp.rdLit (b := b186) (sz := 1) (enc := enInt) [1, 4] (fun _ => rfl) rfl (by unfold maxLen; simp)))) rfl rfl rfl ?_
          refine oj_step (y_move rfl) rfl rfl rfl ?_
          refine oj_step (y_extract rfl rfl) rfl rfl rfl ?_
          refine oj_step (y_extract rfl rfl) rfl rfl rfl ?_
          refine oj_step (y_assign rfl) rfl rfl rfl ?_
          refine oj_step (y_assign rfl) rfl rfl rfl ?_
          refine oj_nil ?_
          refine ej_th (cj_seq (cj_region ?_))
          refine oj_step (y_move rfl) rfl rfl rfl ?_
          refine oj_step (y_eql rfl rfl) rfl rfl rfl ?_
          refine oj_step (y_move rfl) rfl rfl rfl ?_
          refine oj_yes rfl rfl rfl ?_
          refine oj_step (y_move rfl) rfl rfl rfl ?_
          refine oj_yes rfl rfl rfl ?_
          refine oj_step (y_eql rfl rfl) rfl rfl rfl ?_
          refine oj_step (y_pick rfl rfl rfl) rfl rfl rfl ?_
          refine oj_step (y_move rfl) rfl rfl rfl ?_
          refine oj_yes rfl rfl rfl ?_
          refine oj_step (y_move rfl) rfl rfl rfl ?_
          refine oj_yes rfl rfl rfl ?_
          refine oj_step (y_eql rfl rfl) rfl rfl rfl ?_
          refine oj_step (y_pick rfl rfl rfl) rfl rfl rfl ?_
          refine oj_step (y_move rfl) rfl rfl rfl ?_
          refine oj_yes rfl rfl rfl ?_
          refine oj_step (y_move rfl) rfl rfl rfl ?_
          refine oj_yes rfl rfl rfl ?_
          refine oj_buildSlice (cs := [.int .i64 0]) [.int .i64 0] Tryz.underlying49 Tryz.sizeOf3 Tryz.zeroValue3 rfl rfl (by kernel_rfl) (by kernel_rfl) rfl (fun b202 => ?_)
          refine oj_yes rfl rfl rfl ?_
          refine oj_step (y_call Tryz.call26 rfl (fun w hp => k_Same ([0] : List Int) ([0] : List Int) A167 (some ⟨b202, 0, none⟩) c167 1 w hp.rd (hp.rdLit (b := b202) (sz := 1) (enc := enInt) ([0] : List Int) (fun _ => rfl) rfl (by unfold maxLen; simp)))) rfl rfl rfl ?_
          refine oj_step (y_pick rfl rfl rfl) rfl rfl rfl ?_
          refine oj_step (y_move rfl) rfl rfl rfl ?_
          refine oj_yes rfl rfl rfl ?_
          refine oj_step (y_move rfl) rfl rfl rfl ?_
          refine oj_step (y_pick rfl rfl rfl) rfl rfl rfl ?_
          refine oj_step (y_move rfl) rfl rfl rfl ?_
          refine oj_yes rfl rfl rfl ?_
          refine oj_step (y_move rfl) rfl rfl rfl ?_
          refine oj_yes rfl rfl rfl ?_
          refine oj_step (y_eql rfl rfl) rfl rfl rfl ?_
          refine oj_step (y_pick rfl rfl rfl) rfl rfl rfl ?_
          refine oj_step (y_assign rfl) rfl rfl rfl ?_
          refine oj_nil ?_
          refine ej_th (cj_ret ?_)
          exact ej_ret1 rfl Tryz.results11 rfl (fun w' hp => ⟨rfl, hp.below⟩)
    · refine oj_alloc Tryz.zeroValue26 rfl rfl (fun b7 => ?_)
      refine oj_nil ?_
      refine ej_pl (lt_y (y_loadN Tryz.isAgg26 Tryz.sizeOf26 rfl) rfl (lt_nil)) ?_
      refine pl_w1 2 (by kernel_rfl) rfl rfl (pl_fire rfl rfl rfl (by kernel_rfl) ?_)
      refine oj_call (X := { z : ItemV × Nat × Nat // z.1.pl = ringS }) (fun z => .tuple #[evI z.1.1, .int .i64 0]) (fun _ => []) (fun z => [itF (fun i => z.1.2.1 ≤ i ∧ i < z.1.2.2) [z.1.1]]) Tryz.call40 rfl (fun w1 hp => by
        have h := ew_Sort a38 w1 (hp_cl hp (fun i => n38 ≤ i ∧ i < m38) (at0 a38.g12) (gramV a38)) j23 b22 g20 g21 (ring_good (b := j23) (g := b22) (s := sNone) (parts := [gemV g20 sRound, gemV g21 sNone]) hp.rd (by decide) (hp.rdLit (b := b22) (sz := 3) (enc := encIt) [gemV g20 sRound, gemV g21 sNone] (fun _ => rfl) rfl (by unfold maxLen; simp)) (fun p hpp => by
        simp only [List.mem_cons, List.mem_nil_iff, or_false] at hpp
        rcases hpp with rfl | rfl
        · exact (gem_good (b := g20) (s := sRound) hp.rd (by decide))
        · exact (gem_good (b := g21) (s := sNone) hp.rd (by decide))))
        exact h.mono fun e w2 ⟨y, he, hg, hy, hG⟩ => ⟨⟨(y, w1.heap.size, w2.heap.size), hy⟩, he, hg, by simp, by simp, fun f hf => by
          rw [List.mem_singleton.1 hf]
          exact ⟨fun z hz => by rw [List.mem_singleton.1 hz]; exact hG, fun i hi => ⟨hi.1, hi.2, by simp⟩⟩⟩) rfl ?_
      rintro ⟨⟨y, n1, n2⟩, hy⟩
      dsimp only [List.cons_append, List.nil_append] at hy ⊢
      refine oj_nil ?_
      refine ej_pl (lt_w (by kernel_rfl) (lt_nil)) ?_
      refine pl_y 3 rfl (y_move rfl) rfl rfl rfl rfl (by kernel_rfl) ?_
      refine pl_y 4 rfl (y_extract rfl rfl) rfl rfl rfl rfl (by kernel_rfl) ?_
      refine pl_y 5 rfl (y_extract rfl rfl) rfl rfl rfl rfl (by kernel_rfl) ?_
      refine pl_w1 7 (by kernel_rfl) rfl rfl (pl_fire rfl rfl rfl (by kernel_rfl) ?_)
      refine oj_store rfl rfl rfl rfl Tryz.sizeOf26 rfl ?_
      refine oj_nil ?_
      refine ej_pl (lt_y (y_extract rfl rfl) rfl (lt_w (by kernel_rfl) (lt_w (by kernel_rfl) (lt_w (by kernel_rfl) (lt_nil))))) ?_
      refine pl_y 8 rfl (y_assign rfl) rfl rfl rfl rfl (by kernel_rfl) ?_
      refine pl_end (by kernel_rfl) ?_
      refine ej_th (cj_seq ?_)
      refine cj_plan 8 (by kernel_rfl) (by kernel_rfl) ?_
      refine pl_y 1 rfl (y_loadN Tryz.isAgg26 Tryz.sizeOf26 rfl) rfl rfl rfl rfl (by kernel_rfl) ?_
      refine pl_w1 0 (by kernel_rfl) rfl rfl (pl_fire rfl rfl rfl (by kernel_rfl) ?_)
      refine oj_call (X := GrA × Nat × Nat) (fun z => .slice (some ⟨z.1.g12, 0, none⟩) 2 2) (fun _ => []) (fun z => [clF (fun i => z.2.1 ≤ i ∧ i < z.2.2) (at0 z.1.g12) (gramV z.1)]) Tryz.call17 rfl (fun w hp => k_grammar w) rfl ?_
      rintro ⟨a44, n44, m44⟩
      dsimp only [List.nil_append, List.cons_append]
      refine oj_nil ?_
      refine ej_pl (lt_y (y_loadN Tryz.isAgg26 Tryz.sizeOf26 rfl) rfl (lt_nil)) ?_
      refine pl_y 2 rfl (y_call Tryz.call6 rfl (fun w hp => ew_Print2 a44 w (hp_cl hp (fun i => n44 ≤ i ∧ i < m44) (at0 a44.g12) (gramV a44)) y (hp_it hp (fun i => n1 ≤ i ∧ i < n2) y) hy)) rfl rfl rfl rfl (by kernel_rfl) ?_
      refine pl_y 3 rfl (y_move rfl) rfl rfl rfl rfl (by kernel_rfl) ?_
      refine pl_y 4 rfl (y_extract rfl rfl) rfl rfl rfl rfl (by kernel_rfl) ?_
      refine pl_y 5 rfl (y_extract rfl rfl) rfl rfl rfl rfl (by kernel_rfl) ?_
      refine pl_y 6 rfl (y_assign rfl) rfl rfl rfl rfl (by kernel_rfl) ?_
      refine pl_y 7 rfl (y_assign rfl) rfl rfl rfl rfl (by kernel_rfl) ?_
      refine pl_end (by kernel_rfl) ?_
      refine ej_th (cj_seq (cj_seq (cj_region ?_)))
      refine oj_step (y_move rfl) rfl rfl rfl ?_
      refine oj_step (y_neq rfl rfl) rfl rfl rfl ?_
      refine oj_step (y_move rfl) rfl rfl rfl ?_
      refine oj_yes rfl rfl rfl ?_
      refine oj_step (y_move rfl) rfl rfl rfl ?_
      refine oj_yes rfl rfl rfl ?_
      refine oj_step (y_neq rfl rfl) rfl rfl rfl ?_
      refine oj_step (y_pick rfl rfl rfl) rfl rfl rfl ?_
      refine oj_step (y_move rfl) rfl rfl rfl ?_
      refine oj_yes rfl rfl rfl ?_
      refine oj_step (y_move rfl) rfl rfl rfl ?_
      refine oj_yes rfl rfl rfl ?_
      refine oj_step (y_neq rfl rfl) rfl rfl rfl ?_
      refine oj_step (y_pick rfl rfl rfl) rfl rfl rfl ?_
      refine oj_step (y_move rfl) rfl rfl rfl ?_
      refine oj_yes rfl rfl rfl ?_
      refine oj_step (y_move rfl) rfl rfl rfl ?_
      refine oj_yes rfl rfl rfl ?_
      refine oj_step (y_neq rfl rfl) rfl rfl rfl ?_
      refine oj_step (y_pick rfl rfl rfl) rfl rfl rfl ?_
      refine oj_step (y_move rfl) rfl rfl rfl ?_
      refine oj_yes rfl rfl rfl ?_
      refine oj_step (y_move rfl) rfl rfl rfl ?_
      refine oj_yes rfl rfl rfl ?_
      refine oj_step (y_neqS rfl rfl) rfl rfl rfl ?_
      refine oj_step (y_pick rfl rfl rfl) rfl rfl rfl ?_
      refine oj_step (y_move rfl) rfl rfl rfl ?_
      refine oj_yes rfl rfl rfl ?_
      refine oj_step (y_move rfl) rfl rfl rfl ?_
      refine oj_yes rfl rfl rfl ?_
      refine oj_step (y_neq rfl rfl) rfl rfl rfl ?_
      refine oj_step (y_pick rfl rfl rfl) rfl rfl rfl ?_
      refine oj_step (y_move rfl) rfl rfl rfl ?_
      refine oj_yes rfl rfl rfl ?_
      refine oj_step (y_move rfl) rfl rfl rfl ?_
      refine oj_yes rfl rfl rfl ?_
      refine oj_step (y_neq rfl rfl) rfl rfl rfl ?_
      refine oj_step (y_pick rfl rfl rfl) rfl rfl rfl ?_
      refine oj_step (y_move rfl) rfl rfl rfl ?_
      refine oj_yes rfl rfl rfl ?_
      refine oj_step (y_move rfl) rfl rfl rfl ?_
      refine oj_yes rfl rfl rfl ?_
      refine oj_step (y_neqS rfl rfl) rfl rfl rfl ?_
      refine oj_step (y_pick rfl rfl rfl) rfl rfl rfl ?_
      refine oj_nil ?_
      refine ej_th ?_
      refine cj_cond rfl (fun h78 => ?_) (fun h78 => ?_)
      · exact absurd h78 (by decide)
      · have h78b := h78
        try simp only [sxb] at h78
        refine cj_skip (ej_th (cj_seq ?_))
        refine cj_plan 12 (by kernel_rfl) (by kernel_rfl) ?_
        refine pl_y 1 rfl (y_loadN Tryz.isAgg26 Tryz.sizeOf26 rfl) rfl rfl rfl rfl (by kernel_rfl) ?_
        refine pl_w1 0 (by kernel_rfl) rfl rfl (pl_fire rfl rfl rfl (by kernel_rfl) ?_)
        refine oj_call (X := GrA × Nat × Nat) (fun z => .slice (some ⟨z.1.g12, 0, none⟩) 2 2) (fun _ => []) (fun z => [clF (fun i => z.2.1 ≤ i ∧ i < z.2.2) (at0 z.1.g12) (gramV z.1)]) Tryz.call17 rfl (fun w hp => k_grammar w) rfl ?_
        rintro ⟨a80, n80, m80⟩
        dsimp only [List.nil_append, List.cons_append]
        refine oj_nil ?_
        refine ej_pl (lt_y (y_loadN Tryz.isAgg26 Tryz.sizeOf26 rfl) rfl (lt_nil)) ?_
        refine pl_w1 2 (by kernel_rfl) rfl rfl (pl_fire rfl rfl rfl (by kernel_rfl) ?_)
        refine oj_call (X := Nat) (fun x => .agg #[.string sGem, .slice (some ⟨x, 0, none⟩) 1 1, .slice none 0 0]) (fun _ => []) (fun x => [litS x 1 enStr [sOval]]) Tryz.call16 rfl (fun w hp => k_gem sOval w) rfl (fun g82 => ?_)
        dsimp only [List.nil_append, List.cons_append]
        refine oj_nil ?_
        refine ej_pl (lt_y (y_loadN Tryz.isAgg26 Tryz.sizeOf26 rfl) rfl (lt_nil)) ?_
        refine pl_w1 3 (by kernel_rfl) rfl rfl (pl_fire rfl rfl rfl (by kernel_rfl) ?_)
        refine oj_call (X := Nat) (fun x => .agg #[.string sGem, .slice (some ⟨x, 0, none⟩) 1 1, .slice none 0 0]) (fun _ => []) (fun x => [litS x 1 enStr [sRound]]) Tryz.call16 rfl (fun w hp => k_gem sRound w) rfl (fun g83 => ?_)
        dsimp only [List.nil_append, List.cons_append]
        refine oj_nil ?_
        refine ej_pl (lt_y (y_loadN Tryz.isAgg26 Tryz.sizeOf26 rfl) rfl (lt_nil)) ?_
        refine pl_w1 4 (by kernel_rfl) rfl rfl (pl_fire rfl rfl rfl (by kernel_rfl) ?_)
        refine oj_buildSlice (cs := [.string sGem, .slice (some ⟨g82, 0, none⟩) 1 1, .slice none 0 0, .string sGem, .slice (some ⟨g83, 0, none⟩) 1 1, .slice none 0 0]) [.string ⟨#[]⟩, .slice none 0 0, .slice none 0 0, .string ⟨#[]⟩, .slice none 0 0, .slice none 0 0] Tryz.underlying24 Tryz.sizeOf26 Tryz.zeroValue26 rfl rfl (by kernel_rfl) (by kernel_rfl) rfl (fun b84 => ?_)
        refine oj_nil ?_
        refine ej_pl (lt_y (y_loadN Tryz.isAgg26 Tryz.sizeOf26 rfl) rfl (lt_nil)) ?_
        refine pl_w1 5 (by kernel_rfl) rfl rfl (pl_fire rfl rfl rfl (by kernel_rfl) ?_)
        refine oj_call (X := Nat) (fun x => .agg #[.string sRing, .slice (some ⟨x, 0, none⟩) 2 2, .slice (some ⟨b84, 0, none⟩) 2 2]) (fun _ => []) (fun x => [litS x 1 enStr [sGold, sSmall]]) Tryz.call15 rfl (fun w hp => k_jewel sSmall (some ⟨b84, 0, none⟩) 2 2 w) rfl (fun j85 => ?_)
        dsimp only [List.nil_append, List.cons_append]
        refine oj_nil ?_
        refine ej_pl (lt_y (y_loadN Tryz.isAgg26 Tryz.sizeOf26 rfl) rfl (lt_nil)) ?_
        refine pl_y 6 rfl (y_call Tryz.call41 rfl (fun w hp => ew_Cov1 a80 w (hp_cl hp (fun i => n80 ≤ i ∧ i < m80) (at0 a80.g12) (gramV a80)) j23 b22 g20 g21 (ring_good (b := j23) (g := b22) (s := sNone) (parts := [gemV g20 sRound, gemV g21 sNone]) hp.rd (by decide) (hp.rdLit (b := b22) (sz := 3) (enc := encIt) [gemV g20 sRound, gemV g21 sNone] (fun _ => rfl) rfl (by unfold maxLen; simp)) (fun p hpp => by
          simp only [List.mem_cons, List.mem_nil_iff, or_false] at hpp
          rcases hpp with rfl | rfl
          · exact (gem_good (b := g20) (s := sRound) hp.rd (by decide))
          · exact (gem_good (b := g21) (s := sNone) hp.rd (by decide)))) j85 b84 g82 g83 (ring_good (b := j85) (g := b84) (s := sSmall) (parts := [gemV g82 sOval, gemV g83 sRound]) hp.rd (by decide) (hp.rdLit (b := b84) (sz := 3) (enc := encIt) [gemV g82 sOval, gemV g83 sRound] (fun _ => rfl) rfl (by unfold maxLen; simp)) (fun p hpp => by
          simp only [List.mem_cons, List.mem_nil_iff, or_false] at hpp
          rcases hpp with rfl | rfl
          · exact (gem_good (b := g82) (s := sOval) hp.rd (by decide))
          · exact (gem_good (b := g83) (s := sRound) hp.rd (by decide)))))) rfl rfl rfl rfl (by kernel_rfl) ?_
        refine pl_y 7 rfl (y_move rfl) rfl rfl rfl rfl (by kernel_rfl) ?_
        refine pl_y 8 rfl (y_extract rfl rfl) rfl rfl rfl rfl (by kernel_rfl) ?_
        refine pl_y 9 rfl (y_extract rfl rfl) rfl rfl rfl rfl (by kernel_rfl) ?_
        refine pl_y 10 rfl (y_assign rfl) rfl rfl rfl rfl (by kernel_rfl) ?_
        refine pl_y 11 rfl (y_assign rfl) rfl rfl rfl rfl (by kernel_rfl) ?_
        refine pl_end (by kernel_rfl) ?_
        refine ej_th (cj_seq ?_)
        refine cj_plan 11 (by kernel_rfl) (by kernel_rfl) ?_
        refine pl_y 1 rfl (y_loadN Tryz.isAgg26 Tryz.sizeOf26 rfl) rfl rfl rfl rfl (by kernel_rfl) ?_
        refine pl_w1 0 (by kernel_rfl) rfl rfl (pl_fire rfl rfl rfl (by kernel_rfl) ?_)
        refine oj_call (X := GrA × Nat × Nat) (fun z => .slice (some ⟨z.1.g12, 0, none⟩) 2 2) (fun _ => []) (fun z => [clF (fun i => z.2.1 ≤ i ∧ i < z.2.2) (at0 z.1.g12) (gramV z.1)]) Tryz.call17 rfl (fun w hp => k_grammar w) rfl ?_
        rintro ⟨a90, n90, m90⟩
        dsimp only [List.nil_append, List.cons_append]
        refine oj_nil ?_
        refine ej_pl (lt_y (y_loadN Tryz.isAgg26 Tryz.sizeOf26 rfl) rfl (lt_nil)) ?_
        refine pl_w1 2 (by kernel_rfl) rfl rfl (pl_fire rfl rfl rfl (by kernel_rfl) ?_)
        refine oj_call (X := Nat) (fun x => .agg #[.string sGem, .slice (some ⟨x, 0, none⟩) 1 1, .slice none 0 0]) (fun _ => []) (fun x => [litS x 1 enStr [sNone]]) Tryz.call16 rfl (fun w hp => k_gem sNone w) rfl (fun g92 => ?_)
        dsimp only [List.nil_append, List.cons_append]
        refine oj_nil ?_
        refine ej_pl (lt_y (y_loadN Tryz.isAgg26 Tryz.sizeOf26 rfl) rfl (lt_nil)) ?_
        refine pl_w1 3 (by kernel_rfl) rfl rfl (pl_fire rfl rfl rfl (by kernel_rfl) ?_)
        refine oj_buildSlice (cs := [.string sGem, .slice (some ⟨g92, 0, none⟩) 1 1, .slice none 0 0]) [.string ⟨#[]⟩, .slice none 0 0, .slice none 0 0] Tryz.underlying24 Tryz.sizeOf26 Tryz.zeroValue26 rfl rfl (by kernel_rfl) (by kernel_rfl) rfl (fun b93 => ?_)
        refine oj_nil ?_
        refine ej_pl (lt_y (y_loadN Tryz.isAgg26 Tryz.sizeOf26 rfl) rfl (lt_nil)) ?_
        refine pl_w1 4 (by kernel_rfl) rfl rfl (pl_fire rfl rfl rfl (by kernel_rfl) ?_)
        refine oj_call (X := Nat) (fun x => .agg #[.string sRing, .slice (some ⟨x, 0, none⟩) 2 2, .slice (some ⟨b93, 0, none⟩) 1 1]) (fun _ => []) (fun x => [litS x 1 enStr [sGold, sNone]]) Tryz.call15 rfl (fun w hp => k_jewel sNone (some ⟨b93, 0, none⟩) 1 1 w) rfl (fun j94 => ?_)
        dsimp only [List.nil_append, List.cons_append]
        refine oj_nil ?_
        refine ej_pl (lt_y (y_loadN Tryz.isAgg26 Tryz.sizeOf26 rfl) rfl (lt_nil)) ?_
        refine pl_y 5 rfl (y_call Tryz.call41 rfl (fun w hp => ew_Cov2 a90 w (hp_cl hp (fun i => n90 ≤ i ∧ i < m90) (at0 a90.g12) (gramV a90)) j23 b22 g20 g21 (ring_good (b := j23) (g := b22) (s := sNone) (parts := [gemV g20 sRound, gemV g21 sNone]) hp.rd (by decide) (hp.rdLit (b := b22) (sz := 3) (enc := encIt) [gemV g20 sRound, gemV g21 sNone] (fun _ => rfl) rfl (by unfold maxLen; simp)) (fun p hpp => by
          simp only [List.mem_cons, List.mem_nil_iff, or_false] at hpp
          rcases hpp with rfl | rfl
          · exact (gem_good (b := g20) (s := sRound) hp.rd (by decide))
          · exact (gem_good (b := g21) (s := sNone) hp.rd (by decide)))) j94 b93 g92 (ring_good (b := j94) (g := b93) (s := sNone) (parts := [gemV g92 sNone]) hp.rd (by decide) (hp.rdLit (b := b93) (sz := 3) (enc := encIt) [gemV g92 sNone] (fun _ => rfl) rfl (by unfold maxLen; simp)) (fun p hpp => by
          simp only [List.mem_cons, List.mem_nil_iff, or_false] at hpp
          rcases hpp with rfl
          · exact (gem_good (b := g92) (s := sNone) hp.rd (by decide)))))) rfl rfl rfl rfl (by kernel_rfl) ?_
        refine pl_y 6 rfl (y_move rfl) rfl rfl rfl rfl (by kernel_rfl) ?_
        refine pl_y 7 rfl (y_extract rfl rfl) rfl rfl rfl rfl (by kernel_rfl) ?_
        refine pl_y 8 rfl (y_extract rfl rfl) rfl rfl rfl rfl (by kernel_rfl) ?_
        refine pl_y 9 rfl (y_assign rfl) rfl rfl rfl rfl (by kernel_rfl) ?_
        refine pl_y 10 rfl (y_assign rfl) rfl rfl rfl rfl (by kernel_rfl) ?_
        refine pl_end (by kernel_rfl) ?_
        refine ej_th (cj_seq (cj_region ?_))
        refine oj_call (X := Nat × Nat × Nat × Nat × Nat) (fun z => .agg #[.slice (some ⟨z.1, 0, none⟩) 2 2, .slice (some ⟨z.2.1, 0, none⟩) 2 2, .slice (some ⟨z.2.2.1, 0, none⟩) 2 2]) (fun _ => []) (fun z => [litS z.1 2 encMe mEx, litS z.2.1 1 enInt tEx, litS z.2.2.1 1 encFk (fEx z.2.2.2.1 z.2.2.2.2), litS z.2.2.2.1 2 encSp [⟨90, 93⟩, ⟨900, 1100⟩], litS z.2.2.2.2 2 encSp [⟨95, 105⟩, ⟨1016, 1030⟩]]) Tryz.call19 rfl (fun w hp => k_skillEx w) rfl ?_
        rintro ⟨mm, mt, mf, m1, m2⟩
        dsimp only [List.nil_append, List.cons_append]
        refine oj_alloc Tryz.zeroValue52 rfl rfl (fun b13 => ?_)
        refine oj_store rfl rfl rfl rfl Tryz.sizeOf52 rfl ?_
        refine oj_nil ?_
        refine ej_th (cj_seq (cj_region ?_))
        refine oj_step (y_fa0 fa52_0 rfl) rfl rfl rfl ?_
        refine oj_step (y_load1 Tryz.isAgg48 rfl rfl) rfl rfl rfl ?_
        refine oj_buildSlice (cs := [.int .i64 100, .int .i64 1000]) [.int .i64 0, .int .i64 0] Tryz.underlying49 Tryz.sizeOf3 Tryz.zeroValue3 rfl rfl (by kernel_rfl) (by kernel_rfl) rfl (fun b102 => ?_)
        refine oj_buildSlice (cs := [.int .i64 103, .int .i64 (-1)]) [.int .i64 0, .int .i64 0] Tryz.underlying49 Tryz.sizeOf3 Tryz.zeroValue3 rfl rfl (by kernel_rfl) (by kernel_rfl) rfl (fun b103 => ?_)
        refine oj_buildSlice (cs := [.slice (some ⟨b102, 0, none⟩) 2 2, .slice (some ⟨b103, 0, none⟩) 2 2]) [.slice none 0 0, .slice none 0 0] Tryz.underlying57 Tryz.sizeOf49 Tryz.zeroValue49 rfl rfl (by kernel_rfl) (by kernel_rfl) rfl (fun b104 => ?_)
        refine oj_callS (fun A c => .tuple #[.slice A ([⟨101, 102⟩, ⟨995, 1005⟩] : List Span).length c, .int .i64 0]) 2 encSp ([⟨101, 102⟩, ⟨995, 1005⟩] : List Span) Tryz.call20 rfl (fun w hp => ew_Narrow (some ⟨mm, 0, none⟩) (some ⟨b104, 0, none⟩) b102 b103 w hp.rd (hp.rdLit (b := b104) (sz := 1) (enc := encLs) (rEx b102 b103) (fun _ => rfl) rfl (by unfold maxLen; simp)) (fun r hr => by
          simp only [List.mem_cons, List.mem_nil_iff, or_false] at hr
          rcases hr with rfl | rfl
          · exact (hp.rdLit (b := b102) (sz := 1) (enc := enInt) [100, 1000] (fun _ => rfl) rfl (by unfold maxLen; simp))
          · exact (hp.rdLit (b := b103) (sz := 1) (enc := enInt) [103, -1] (fun _ => rfl) rfl (by unfold maxLen; simp)))) rfl (fun A105 c105 fp105 hfp105 => ?_)
        refine oj_step (y_move rfl) rfl rfl rfl ?_
        refine oj_step (y_extract rfl rfl) rfl rfl rfl ?_
        refine oj_step (y_extract rfl rfl) rfl rfl rfl ?_
        refine oj_step (y_assign rfl) rfl rfl rfl ?_
        refine oj_step (y_assign rfl) rfl rfl rfl ?_
        refine oj_nil ?_
        refine ej_th (cj_seq (cj_region ?_))
        refine oj_step (y_fa0 fa52_0 rfl) rfl rfl rfl ?_
        refine oj_step (y_load1 Tryz.isAgg48 rfl rfl) rfl rfl rfl ?_
        refine oj_step (y_fa fa52_1 rfl) rfl rfl rfl ?_
        refine oj_step (y_load1 Tryz.isAgg49 rfl rfl) rfl rfl rfl ?_
        refine oj_step (y_fa fa52_2 rfl) rfl rfl rfl ?_
        refine oj_step (y_load1 Tryz.isAgg50 rfl rfl) rfl rfl rfl ?_
        refine oj_callS (fun A c => .tuple #[.slice A ([0, 1] : List Int).length c, .int .i64 5, .int .i64 0]) 1 enInt ([0, 1] : List Int) Tryz.call24 rfl (fun w hp => ew_Least (some ⟨mm, 0, none⟩) (some ⟨mt, 0, none⟩) (some ⟨mf, 0, none⟩) m1 m2 w hp.rd hp.rd hp.rd (fun f hff => by
          simp only [List.mem_cons, List.mem_nil_iff, or_false] at hff
          rcases hff with rfl | rfl
          · exact hp.rd
          · exact hp.rd)) rfl (fun A115 c115 fp115 hfp115 => ?_)
        refine oj_step (y_move rfl) rfl rfl rfl ?_
        refine oj_step (y_extract rfl rfl) rfl rfl rfl ?_
        refine oj_step (y_extract rfl rfl) rfl rfl rfl ?_
        refine oj_step (y_extract rfl rfl) rfl rfl rfl ?_
        refine oj_step (y_assign rfl) rfl rfl rfl ?_
        refine oj_step (y_assign rfl) rfl rfl rfl ?_
        refine oj_step (y_assign rfl) rfl rfl rfl ?_
        refine oj_nil ?_
        refine ej_th (cj_seq (cj_seq (cj_region ?_)))
        refine oj_step (y_move rfl) rfl rfl rfl ?_
        refine oj_step (y_neq rfl rfl) rfl rfl rfl ?_
        refine oj_step (y_move rfl) rfl rfl rfl ?_
        refine oj_yes rfl rfl rfl ?_
        refine oj_step (y_move rfl) rfl rfl rfl ?_
        refine oj_yes rfl rfl rfl ?_
        refine oj_step (y_neq rfl rfl) rfl rfl rfl ?_
        refine oj_step (y_pick rfl rfl rfl) rfl rfl rfl ?_
        refine oj_step (y_move rfl) rfl rfl rfl ?_
        refine oj_yes rfl rfl rfl ?_
        refine oj_step (y_move rfl) rfl rfl rfl ?_
        refine oj_yes rfl rfl rfl ?_
        refine oj_step (y_neq rfl rfl) rfl rfl rfl ?_
        refine oj_step (y_pick rfl rfl rfl) rfl rfl rfl ?_
        refine oj_step (y_move rfl) rfl rfl rfl ?_
        refine oj_yes rfl rfl rfl ?_
        refine oj_step (y_move rfl) rfl rfl rfl ?_
        refine oj_yes rfl rfl rfl ?_
        refine oj_step (y_neq rfl rfl) rfl rfl rfl ?_
        refine oj_step (y_pick rfl rfl rfl) rfl rfl rfl ?_
        refine oj_step (y_move rfl) rfl rfl rfl ?_
        refine oj_yes rfl rfl rfl ?_
        refine oj_step (y_move rfl) rfl rfl rfl ?_
        refine oj_yes rfl rfl rfl ?_
        refine oj_step (y_not rfl) rfl rfl rfl ?_
        refine oj_step (y_pick rfl rfl rfl) rfl rfl rfl ?_
        refine oj_step (y_move rfl) rfl rfl rfl ?_
        refine oj_yes rfl rfl rfl ?_
        refine oj_step (y_move rfl) rfl rfl rfl ?_
        refine oj_step (y_pick rfl rfl rfl) rfl rfl rfl ?_
        refine oj_step (y_move rfl) rfl rfl rfl ?_
        refine oj_yes rfl rfl rfl ?_
        refine oj_step (y_move rfl) rfl rfl rfl ?_
        refine oj_yes rfl rfl rfl ?_
        refine oj_step (y_build (cs := [.int .i64 101, .int .i64 102]) st70 rfl (by kernel_rfl)) rfl rfl rfl ?_
        refine oj_yes rfl rfl rfl ?_
        refine oj_step (y_build (cs := [.int .i64 995, .int .i64 1005]) st70 rfl (by kernel_rfl)) rfl rfl rfl ?_
        refine oj_yes rfl rfl rfl ?_
        refine oj_buildSlice (cs := [.int .i64 101, .int .i64 102, .int .i64 995, .int .i64 1005]) [.int .i64 0, .int .i64 0, .int .i64 0, .int .i64 0] Tryz.underlying54 Tryz.sizeOf70 Tryz.zeroValue70 rfl rfl (by kernel_rfl) (by kernel_rfl) rfl (fun b144 => ?_)
        refine oj_yes rfl rfl rfl ?_
        refine oj_step (y_call Tryz.call42 rfl (fun w hp => k_SameSp ([⟨101, 102⟩, ⟨995, 1005⟩] : List Span) ([⟨101, 102⟩, ⟨995, 1005⟩] : List Span) A105 (some ⟨b144, 0, none⟩) c105 2 w hp.rd (hp.rdLit (b := b144) (sz := 2) (enc := encSp) ([⟨101, 102⟩, ⟨995, 1005⟩] : List Span) (fun _ => rfl) rfl (by unfold maxLen; simp)))) rfl rfl rfl ?_
        refine oj_yes rfl rfl rfl ?_
        refine oj_step (y_not rfl) rfl rfl rfl ?_
        refine oj_step (y_pick rfl rfl rfl) rfl rfl rfl ?_
        refine oj_step (y_move rfl) rfl rfl rfl ?_
        refine oj_yes rfl rfl rfl ?_
        refine oj_step (y_move rfl) rfl rfl rfl ?_
        refine oj_yes rfl rfl rfl ?_
        refine oj_buildSlice (cs := [.int .i64 0, .int .i64 1]) [.int .i64 0, .int .i64 0] Tryz.underlying49 Tryz.sizeOf3 Tryz.zeroValue3 rfl rfl (by kernel_rfl) (by kernel_rfl) rfl (fun b150 => ?_)
        refine oj_yes rfl rfl rfl ?_
        refine oj_step (y_call Tryz.call26 rfl (fun w hp => k_Same ([0, 1] : List Int) ([0, 1] : List Int) A115 (some ⟨b150, 0, none⟩) c115 2 w hp.rd (hp.rdLit (b := b150) (sz := 1) (enc := enInt) ([0, 1] : List Int) (fun _ => rfl) rfl (by unfold maxLen; simp)))) rfl rfl rfl ?_
        refine oj_yes rfl rfl rfl ?_
        refine oj_step (y_not rfl) rfl rfl rfl ?_
        refine oj_step (y_pick rfl rfl rfl) rfl rfl rfl ?_
        refine oj_step (y_move rfl) rfl rfl rfl ?_
        refine oj_yes rfl rfl rfl ?_
        refine oj_step (y_move rfl) rfl rfl rfl ?_
        refine oj_yes rfl rfl rfl ?_
        refine oj_step (y_neq rfl rfl) rfl rfl rfl ?_
        refine oj_step (y_pick rfl rfl rfl) rfl rfl rfl ?_
        refine oj_nil ?_
        refine ej_th ?_
        refine cj_cond rfl (fun h157 => ?_) (fun h157 => ?_)
        · exact absurd h157 (by decide)
        · have h157b := h157
          try simp only [sxb] at h157
          refine cj_skip (ej_th (cj_seq ?_))
          refine cj_plan 14 (by kernel_rfl) (by kernel_rfl) ?_
          refine pl_y 0 rfl (y_fa0 fa52_0 rfl) rfl rfl rfl rfl (by kernel_rfl) ?_
          refine pl_y 1 rfl (y_load1 Tryz.isAgg48 rfl rfl) rfl rfl rfl rfl (by kernel_rfl) ?_
          refine pl_y 2 rfl (y_fa fa52_1 rfl) rfl rfl rfl rfl (by kernel_rfl) ?_
          refine pl_y 3 rfl (y_load1 Tryz.isAgg49 rfl rfl) rfl rfl rfl rfl (by kernel_rfl) ?_
          refine pl_y 4 rfl (y_fa fa52_2 rfl) rfl rfl rfl rfl (by kernel_rfl) ?_
          refine pl_y 5 rfl (y_load1 Tryz.isAgg50 rfl rfl) rfl rfl rfl rfl (by kernel_rfl) ?_
          refine pl_y 6 rfl (y_ixR (reads_sl (xs := fEx m1 m2) (enc := encFk) (sz := 1)) Tryz.underlying50 Tryz.sizeOf63 rfl rfl ⟨by decide, show (0 : Int) < ((2 : Nat) : Int) by decide⟩) rfl rfl rfl rfl (by kernel_rfl) ?_
          refine pl_y 7 rfl (y_ldW (reads_sl) Tryz.isAgg63 Tryz.sizeOf63 rfl (rfl) (fun _ => rfl)) rfl rfl rfl rfl (by kernel_rfl) ?_
          refine pl_w1 8 (by kernel_rfl) rfl rfl (pl_fire rfl rfl rfl (by kernel_rfl) ?_)
          refine oj_callS (fun A c => .tuple #[.slice A ([0] : List Int).length c, .int .i64 0]) 1 enInt ([0] : List Int) Tryz.call22 rfl (fun w hp => ew_Finds (some ⟨mm, 0, none⟩) (some ⟨mt, 0, none⟩) m1 w hp.rd hp.rd hp.rd) rfl (fun A167 c167 fp167 hfp167 => ?_)
          refine oj_nil ?_
          refine ej_pl (lt_w (by kernel_rfl) (lt_y (y_ixR (reads_sl (xs := fEx m1 m2) (enc := encFk) (sz := 1)) Tryz.underlying50 Tryz.sizeOf63 rfl rfl ⟨by decide, show (0 : Int) < ((2 : Nat) : Int) by decide⟩) rfl (lt_y (y_load1 Tryz.isAgg50 rfl rfl) rfl (lt_y (y_fa fa52_2 rfl) rfl (lt_w (by kernel_rfl) (lt_y (y_fa fa52_1 rfl) rfl (lt_w (by kernel_rfl) (lt_y (y_fa0 fa52_0 rfl) rfl (lt_nil))))))))) ?_
          refine pl_y 9 rfl (y_move rfl) rfl rfl rfl rfl (by kernel_rfl) ?_
          refine pl_y 10 rfl (y_extract rfl rfl) rfl rfl rfl rfl (by kernel_rfl) ?_
          refine pl_y 11 rfl (y_extract rfl rfl) rfl rfl rfl rfl (by kernel_rfl) ?_
          refine pl_y 12 rfl (y_assign rfl) rfl rfl rfl rfl (by kernel_rfl) ?_
          refine pl_y 13 rfl (y_assign rfl) rfl rfl rfl rfl (by kernel_rfl) ?_
          refine pl_end (by kernel_rfl) ?_
          refine ej_th (cj_seq (cj_region ?_))
          refine oj_step (y_fa0 fa52_0 rfl) rfl rfl rfl ?_
          refine oj_step (y_load1 Tryz.isAgg48 rfl rfl) rfl rfl rfl ?_
          refine oj_step (y_fa fa52_1 rfl) rfl rfl rfl ?_
          refine oj_step (y_load1 Tryz.isAgg49 rfl rfl) rfl rfl rfl ?_
          refine oj_buildSlice (cs := [.int .i64 104, .int .i64 1010]) [.int .i64 0, .int .i64 0] Tryz.underlying49 Tryz.sizeOf3 Tryz.zeroValue3 rfl rfl (by kernel_rfl) (by kernel_rfl) rfl (fun b175 => ?_)
          refine oj_step (y_call Tryz.call21 rfl (fun w hp => ew_Agree (some ⟨mm, 0, none⟩) (some ⟨mt, 0, none⟩) (some ⟨b175, 0, none⟩) w hp.rd hp.rd (hp.rdLit (b := b175) (sz := 1) (enc := enInt) [104, 1010] (fun _ => rfl) rfl (by unfold maxLen; simp)))) rfl rfl rfl ?_
          refine oj_step (y_move rfl) rfl rfl rfl ?_
          refine oj_step (y_extract rfl rfl) rfl rfl rfl ?_
          refine oj_step (y_extract rfl rfl) rfl rfl rfl ?_
          refine oj_step (y_assign rfl) rfl rfl rfl ?_
          refine oj_step (y_assign rfl) rfl rfl rfl ?_
          refine oj_nil ?_
          refine ej_th (cj_seq (cj_region ?_))
          refine oj_step (y_fa0 fa52_0 rfl) rfl rfl rfl ?_
          refine oj_step (y_load1 Tryz.isAgg48 rfl rfl) rfl rfl rfl ?_
          refine oj_step (y_fa fa52_1 rfl) rfl rfl rfl ?_
          refine oj_step (y_load1 Tryz.isAgg49 rfl rfl) rfl rfl rfl ?_
          refine oj_step (y_fa fa52_2 rfl) rfl rfl rfl ?_
          refine oj_step (y_load1 Tryz.isAgg50 rfl rfl) rfl rfl rfl ?_
          refine oj_buildSlice (cs := [.int .i64 1, .int .i64 4]) [.int .i64 0, .int .i64 0] Tryz.underlying49 Tryz.sizeOf3 Tryz.zeroValue3 rfl rfl (by kernel_rfl) (by kernel_rfl) rfl (fun b186 => ?_)
          refine oj_step (y_call Tryz.call25 rfl (fun w hp => ew_Bound (some ⟨mm, 0, none⟩) (some ⟨mt, 0, none⟩) (some ⟨mf, 0, none⟩) (some ⟨b186, 0, none⟩) m1 m2 w hp.rd hp.rd hp.rd (fun f hff => by
            simp only [List.mem_cons, List.mem_nil_iff, or_false] at hff
            rcases hff with rfl | rfl
            · exact hp.rd
            · exact hp.rd) (hp.rdLit (b := b186) (sz := 1) (enc := enInt) [1, 4] (fun _ => rfl) rfl (by unfold maxLen; simp)))) rfl rfl rfl ?_
          refine oj_step (y_move rfl) rfl rfl rfl ?_
          refine oj_step (y_extract rfl rfl) rfl rfl rfl ?_
          refine oj_step (y_extract rfl rfl) rfl rfl rfl ?_
          refine oj_step (y_assign rfl) rfl rfl rfl ?_
          refine oj_step (y_assign rfl) rfl rfl rfl ?_
          refine oj_nil ?_
          refine ej_th (cj_seq (cj_region ?_))
          refine oj_step (y_move rfl) rfl rfl rfl ?_
          refine oj_step (y_eql rfl rfl) rfl rfl rfl ?_
          refine oj_step (y_move rfl) rfl rfl rfl ?_
          refine oj_yes rfl rfl rfl ?_
          refine oj_step (y_move rfl) rfl rfl rfl ?_
          refine oj_yes rfl rfl rfl ?_
          refine oj_step (y_eql rfl rfl) rfl rfl rfl ?_
          refine oj_step (y_pick rfl rfl rfl) rfl rfl rfl ?_
          refine oj_step (y_move rfl) rfl rfl rfl ?_
          refine oj_yes rfl rfl rfl ?_
          refine oj_step (y_move rfl) rfl rfl rfl ?_
          refine oj_yes rfl rfl rfl ?_
          refine oj_step (y_eql rfl rfl) rfl rfl rfl ?_
          refine oj_step (y_pick rfl rfl rfl) rfl rfl rfl ?_
          refine oj_step (y_move rfl) rfl rfl rfl ?_
          refine oj_yes rfl rfl rfl ?_
          refine oj_step (y_move rfl) rfl rfl rfl ?_
          refine oj_yes rfl rfl rfl ?_
          refine oj_buildSlice (cs := [.int .i64 0]) [.int .i64 0] Tryz.underlying49 Tryz.sizeOf3 Tryz.zeroValue3 rfl rfl (by kernel_rfl) (by kernel_rfl) rfl (fun b202 => ?_)
          refine oj_yes rfl rfl rfl ?_
          refine oj_step (y_call Tryz.call26 rfl (fun w hp => k_Same ([0] : List Int) ([0] : List Int) A167 (some ⟨b202, 0, none⟩) c167 1 w hp.rd (hp.rdLit (b := b202) (sz := 1) (enc := enInt) ([0] : List Int) (fun _ => rfl) rfl (by unfold maxLen; simp)))) rfl rfl rfl ?_
          refine oj_step (y_pick rfl rfl rfl) rfl rfl rfl ?_
          refine oj_step (y_move rfl) rfl rfl rfl ?_
          refine oj_yes rfl rfl rfl ?_
          refine oj_step (y_move rfl) rfl rfl rfl ?_
          refine oj_step (y_pick rfl rfl rfl) rfl rfl rfl ?_
          refine oj_step (y_move rfl) rfl rfl rfl ?_
          refine oj_yes rfl rfl rfl ?_
          refine oj_step (y_move rfl) rfl rfl rfl ?_
          refine oj_yes rfl rfl rfl ?_
          refine oj_step (y_eql rfl rfl) rfl rfl rfl ?_
          refine oj_step (y_pick rfl rfl rfl) rfl rfl rfl ?_
          refine oj_step (y_assign rfl) rfl rfl rfl ?_
          refine oj_nil ?_
          refine ej_th (cj_ret ?_)
          exact ej_ret1 rfl Tryz.results11 rfl (fun w' hp => ⟨rfl, hp.below⟩)
  · refine oj_alloc Tryz.zeroValue26 rfl rfl (fun b7 => ?_)
    refine oj_nil ?_
    refine ej_pl (lt_y (y_loadN Tryz.isAgg26 Tryz.sizeOf26 rfl) rfl (lt_nil)) ?_
    refine pl_w1 0 (by kernel_rfl) rfl rfl (pl_fire rfl rfl rfl (by kernel_rfl) ?_)
    refine oj_call (X := GrA × Nat × Nat) (fun z => .slice (some ⟨z.1.g12, 0, none⟩) 2 2) (fun _ => []) (fun z => [clF (fun i => z.2.1 ≤ i ∧ i < z.2.2) (at0 z.1.g12) (gramV z.1)]) Tryz.call17 rfl (fun w hp => k_grammar w) rfl ?_
    rintro ⟨a38, n38, m38⟩
    dsimp only [List.nil_append, List.cons_append]
    refine oj_nil ?_
    refine ej_pl (lt_y (y_loadN Tryz.isAgg26 Tryz.sizeOf26 rfl) rfl (lt_nil)) ?_
    refine pl_w1 2 (by kernel_rfl) rfl rfl (pl_fire rfl rfl rfl (by kernel_rfl) ?_)
    refine oj_call (X := { z : ItemV × Nat × Nat // z.1.pl = ringS }) (fun z => .tuple #[evI z.1.1, .int .i64 0]) (fun _ => []) (fun z => [itF (fun i => z.1.2.1 ≤ i ∧ i < z.1.2.2) [z.1.1]]) Tryz.call40 rfl (fun w1 hp => by
      have h := ew_Sort a38 w1 (hp_cl hp (fun i => n38 ≤ i ∧ i < m38) (at0 a38.g12) (gramV a38)) j23 b22 g20 g21 (ring_good (b := j23) (g := b22) (s := sNone) (parts := [gemV g20 sRound, gemV g21 sNone]) hp.rd (by decide) (hp.rdLit (b := b22) (sz := 3) (enc := encIt) [gemV g20 sRound, gemV g21 sNone] (fun _ => rfl) rfl (by unfold maxLen; simp)) (fun p hpp => by
      simp only [List.mem_cons, List.mem_nil_iff, or_false] at hpp
      rcases hpp with rfl | rfl
      · exact (gem_good (b := g20) (s := sRound) hp.rd (by decide))
      · exact (gem_good (b := g21) (s := sNone) hp.rd (by decide))))
      exact h.mono fun e w2 ⟨y, he, hg, hy, hG⟩ => ⟨⟨(y, w1.heap.size, w2.heap.size), hy⟩, he, hg, by simp, by simp, fun f hf => by
        rw [List.mem_singleton.1 hf]
        exact ⟨fun z hz => by rw [List.mem_singleton.1 hz]; exact hG, fun i hi => ⟨hi.1, hi.2, by simp⟩⟩⟩) rfl ?_
    rintro ⟨⟨y, n1, n2⟩, hy⟩
    dsimp only [List.cons_append, List.nil_append] at hy ⊢
    refine oj_nil ?_
    refine ej_pl (lt_w (by kernel_rfl) (lt_nil)) ?_
    refine pl_y 3 rfl (y_move rfl) rfl rfl rfl rfl (by kernel_rfl) ?_
    refine pl_y 4 rfl (y_extract rfl rfl) rfl rfl rfl rfl (by kernel_rfl) ?_
    refine pl_y 5 rfl (y_extract rfl rfl) rfl rfl rfl rfl (by kernel_rfl) ?_
    refine pl_w1 7 (by kernel_rfl) rfl rfl (pl_fire rfl rfl rfl (by kernel_rfl) ?_)
    refine oj_store rfl rfl rfl rfl Tryz.sizeOf26 rfl ?_
    refine oj_nil ?_
    refine ej_pl (lt_y (y_extract rfl rfl) rfl (lt_w (by kernel_rfl) (lt_w (by kernel_rfl) (lt_w (by kernel_rfl) (lt_nil))))) ?_
    refine pl_y 8 rfl (y_assign rfl) rfl rfl rfl rfl (by kernel_rfl) ?_
    refine pl_end (by kernel_rfl) ?_
    refine ej_th (cj_seq ?_)
    refine cj_plan 8 (by kernel_rfl) (by kernel_rfl) ?_
    refine pl_y 1 rfl (y_loadN Tryz.isAgg26 Tryz.sizeOf26 rfl) rfl rfl rfl rfl (by kernel_rfl) ?_
    refine pl_w1 0 (by kernel_rfl) rfl rfl (pl_fire rfl rfl rfl (by kernel_rfl) ?_)
    refine oj_call (X := GrA × Nat × Nat) (fun z => .slice (some ⟨z.1.g12, 0, none⟩) 2 2) (fun _ => []) (fun z => [clF (fun i => z.2.1 ≤ i ∧ i < z.2.2) (at0 z.1.g12) (gramV z.1)]) Tryz.call17 rfl (fun w hp => k_grammar w) rfl ?_
    rintro ⟨a44, n44, m44⟩
    dsimp only [List.nil_append, List.cons_append]
    refine oj_nil ?_
    refine ej_pl (lt_y (y_loadN Tryz.isAgg26 Tryz.sizeOf26 rfl) rfl (lt_nil)) ?_
    refine pl_y 2 rfl (y_call Tryz.call6 rfl (fun w hp => ew_Print2 a44 w (hp_cl hp (fun i => n44 ≤ i ∧ i < m44) (at0 a44.g12) (gramV a44)) y (hp_it hp (fun i => n1 ≤ i ∧ i < n2) y) hy)) rfl rfl rfl rfl (by kernel_rfl) ?_
    refine pl_y 3 rfl (y_move rfl) rfl rfl rfl rfl (by kernel_rfl) ?_
    refine pl_y 4 rfl (y_extract rfl rfl) rfl rfl rfl rfl (by kernel_rfl) ?_
    refine pl_y 5 rfl (y_extract rfl rfl) rfl rfl rfl rfl (by kernel_rfl) ?_
    refine pl_y 6 rfl (y_assign rfl) rfl rfl rfl rfl (by kernel_rfl) ?_
    refine pl_y 7 rfl (y_assign rfl) rfl rfl rfl rfl (by kernel_rfl) ?_
    refine pl_end (by kernel_rfl) ?_
    refine ej_th (cj_seq (cj_seq (cj_region ?_)))
    refine oj_step (y_move rfl) rfl rfl rfl ?_
    refine oj_step (y_neq rfl rfl) rfl rfl rfl ?_
    refine oj_step (y_move rfl) rfl rfl rfl ?_
    refine oj_yes rfl rfl rfl ?_
    refine oj_step (y_move rfl) rfl rfl rfl ?_
    refine oj_yes rfl rfl rfl ?_
    refine oj_step (y_neq rfl rfl) rfl rfl rfl ?_
    refine oj_step (y_pick rfl rfl rfl) rfl rfl rfl ?_
    refine oj_step (y_move rfl) rfl rfl rfl ?_
    refine oj_yes rfl rfl rfl ?_
    refine oj_step (y_move rfl) rfl rfl rfl ?_
    refine oj_yes rfl rfl rfl ?_
    refine oj_step (y_neq rfl rfl) rfl rfl rfl ?_
    refine oj_step (y_pick rfl rfl rfl) rfl rfl rfl ?_
    refine oj_step (y_move rfl) rfl rfl rfl ?_
    refine oj_yes rfl rfl rfl ?_
    refine oj_step (y_move rfl) rfl rfl rfl ?_
    refine oj_yes rfl rfl rfl ?_
    refine oj_step (y_neq rfl rfl) rfl rfl rfl ?_
    refine oj_step (y_pick rfl rfl rfl) rfl rfl rfl ?_
    refine oj_step (y_move rfl) rfl rfl rfl ?_
    refine oj_yes rfl rfl rfl ?_
    refine oj_step (y_move rfl) rfl rfl rfl ?_
    refine oj_yes rfl rfl rfl ?_
    refine oj_step (y_neqS rfl rfl) rfl rfl rfl ?_
    refine oj_step (y_pick rfl rfl rfl) rfl rfl rfl ?_
    refine oj_step (y_move rfl) rfl rfl rfl ?_
    refine oj_yes rfl rfl rfl ?_
    refine oj_step (y_move rfl) rfl rfl rfl ?_
    refine oj_yes rfl rfl rfl ?_
    refine oj_step (y_neq rfl rfl) rfl rfl rfl ?_
    refine oj_step (y_pick rfl rfl rfl) rfl rfl rfl ?_
    refine oj_step (y_move rfl) rfl rfl rfl ?_
    refine oj_yes rfl rfl rfl ?_
    refine oj_step (y_move rfl) rfl rfl rfl ?_
    refine oj_yes rfl rfl rfl ?_
    refine oj_step (y_neq rfl rfl) rfl rfl rfl ?_
    refine oj_step (y_pick rfl rfl rfl) rfl rfl rfl ?_
    refine oj_step (y_move rfl) rfl rfl rfl ?_
    refine oj_yes rfl rfl rfl ?_
    refine oj_step (y_move rfl) rfl rfl rfl ?_
    refine oj_yes rfl rfl rfl ?_
    refine oj_step (y_neqS rfl rfl) rfl rfl rfl ?_
    refine oj_step (y_pick rfl rfl rfl) rfl rfl rfl ?_
    refine oj_nil ?_
    refine ej_th ?_
    refine cj_cond rfl (fun h78 => ?_) (fun h78 => ?_)
    · exact absurd h78 (by decide)
    · have h78b := h78
      try simp only [sxb] at h78
      refine cj_skip (ej_th (cj_seq ?_))
      refine cj_plan 12 (by kernel_rfl) (by kernel_rfl) ?_
      refine pl_y 1 rfl (y_loadN Tryz.isAgg26 Tryz.sizeOf26 rfl) rfl rfl rfl rfl (by kernel_rfl) ?_
      refine pl_w1 0 (by kernel_rfl) rfl rfl (pl_fire rfl rfl rfl (by kernel_rfl) ?_)
      refine oj_call (X := GrA × Nat × Nat) (fun z => .slice (some ⟨z.1.g12, 0, none⟩) 2 2) (fun _ => []) (fun z => [clF (fun i => z.2.1 ≤ i ∧ i < z.2.2) (at0 z.1.g12) (gramV z.1)]) Tryz.call17 rfl (fun w hp => k_grammar w) rfl ?_
      rintro ⟨a80, n80, m80⟩
      dsimp only [List.nil_append, List.cons_append]
      refine oj_nil ?_
      refine ej_pl (lt_y (y_loadN Tryz.isAgg26 Tryz.sizeOf26 rfl) rfl (lt_nil)) ?_
      refine pl_w1 2 (by kernel_rfl) rfl rfl (pl_fire rfl rfl rfl (by kernel_rfl) ?_)
      refine oj_call (X := Nat) (fun x => .agg #[.string sGem, .slice (some ⟨x, 0, none⟩) 1 1, .slice none 0 0]) (fun _ => []) (fun x => [litS x 1 enStr [sOval]]) Tryz.call16 rfl (fun w hp => k_gem sOval w) rfl (fun g82 => ?_)
      dsimp only [List.nil_append, List.cons_append]
      refine oj_nil ?_
      refine ej_pl (lt_y (y_loadN Tryz.isAgg26 Tryz.sizeOf26 rfl) rfl (lt_nil)) ?_
      refine pl_w1 3 (by kernel_rfl) rfl rfl (pl_fire rfl rfl rfl (by kernel_rfl) ?_)
      refine oj_call (X := Nat) (fun x => .agg #[.string sGem, .slice (some ⟨x, 0, none⟩) 1 1, .slice none 0 0]) (fun _ => []) (fun x => [litS x 1 enStr [sRound]]) Tryz.call16 rfl (fun w hp => k_gem sRound w) rfl (fun g83 => ?_)
      dsimp only [List.nil_append, List.cons_append]
      refine oj_nil ?_
      refine ej_pl (lt_y (y_loadN Tryz.isAgg26 Tryz.sizeOf26 rfl) rfl (lt_nil)) ?_
      refine pl_w1 4 (by kernel_rfl) rfl rfl (pl_fire rfl rfl rfl (by kernel_rfl) ?_)
      refine oj_buildSlice (cs := [.string sGem, .slice (some ⟨g82, 0, none⟩) 1 1, .slice none 0 0, .string sGem, .slice (some ⟨g83, 0, none⟩) 1 1, .slice none 0 0]) [.string ⟨#[]⟩, .slice none 0 0, .slice none 0 0, .string ⟨#[]⟩, .slice none 0 0, .slice none 0 0] Tryz.underlying24 Tryz.sizeOf26 Tryz.zeroValue26 rfl rfl (by kernel_rfl) (by kernel_rfl) rfl (fun b84 => ?_)
      refine oj_nil ?_
      refine ej_pl (lt_y (y_loadN Tryz.isAgg26 Tryz.sizeOf26 rfl) rfl (lt_nil)) ?_
      refine pl_w1 5 (by kernel_rfl) rfl rfl (pl_fire rfl rfl rfl (by kernel_rfl) ?_)
      refine oj_call (X := Nat) (fun x => .agg #[.string sRing, .slice (some ⟨x, 0, none⟩) 2 2, .slice (some ⟨b84, 0, none⟩) 2 2]) (fun _ => []) (fun x => [litS x 1 enStr [sGold, sSmall]]) Tryz.call15 rfl (fun w hp => k_jewel sSmall (some ⟨b84, 0, none⟩) 2 2 w) rfl (fun j85 => ?_)
      dsimp only [List.nil_append, List.cons_append]
      refine oj_nil ?_
      refine ej_pl (lt_y (y_loadN Tryz.isAgg26 Tryz.sizeOf26 rfl) rfl (lt_nil)) ?_
      refine pl_y 6 rfl (y_call Tryz.call41 rfl (fun w hp => ew_Cov1 a80 w (hp_cl hp (fun i => n80 ≤ i ∧ i < m80) (at0 a80.g12) (gramV a80)) j23 b22 g20 g21 (ring_good (b := j23) (g := b22) (s := sNone) (parts := [gemV g20 sRound, gemV g21 sNone]) hp.rd (by decide) (hp.rdLit (b := b22) (sz := 3) (enc := encIt) [gemV g20 sRound, gemV g21 sNone] (fun _ => rfl) rfl (by unfold maxLen; simp)) (fun p hpp => by
        simp only [List.mem_cons, List.mem_nil_iff, or_false] at hpp
        rcases hpp with rfl | rfl
        · exact (gem_good (b := g20) (s := sRound) hp.rd (by decide))
        · exact (gem_good (b := g21) (s := sNone) hp.rd (by decide)))) j85 b84 g82 g83 (ring_good (b := j85) (g := b84) (s := sSmall) (parts := [gemV g82 sOval, gemV g83 sRound]) hp.rd (by decide) (hp.rdLit (b := b84) (sz := 3) (enc := encIt) [gemV g82 sOval, gemV g83 sRound] (fun _ => rfl) rfl (by unfold maxLen; simp)) (fun p hpp => by
        simp only [List.mem_cons, List.mem_nil_iff, or_false] at hpp
        rcases hpp with rfl | rfl
        · exact (gem_good (b := g82) (s := sOval) hp.rd (by decide))
        · exact (gem_good (b := g83) (s := sRound) hp.rd (by decide)))))) rfl rfl rfl rfl (by kernel_rfl) ?_
      refine pl_y 7 rfl (y_move rfl) rfl rfl rfl rfl (by kernel_rfl) ?_
      refine pl_y 8 rfl (y_extract rfl rfl) rfl rfl rfl rfl (by kernel_rfl) ?_
      refine pl_y 9 rfl (y_extract rfl rfl) rfl rfl rfl rfl (by kernel_rfl) ?_
      refine pl_y 10 rfl (y_assign rfl) rfl rfl rfl rfl (by kernel_rfl) ?_
      refine pl_y 11 rfl (y_assign rfl) rfl rfl rfl rfl (by kernel_rfl) ?_
      refine pl_end (by kernel_rfl) ?_
      refine ej_th (cj_seq ?_)
      refine cj_plan 11 (by kernel_rfl) (by kernel_rfl) ?_
      refine pl_y 1 rfl (y_loadN Tryz.isAgg26 Tryz.sizeOf26 rfl) rfl rfl rfl rfl (by kernel_rfl) ?_
      refine pl_w1 0 (by kernel_rfl) rfl rfl (pl_fire rfl rfl rfl (by kernel_rfl) ?_)
      refine oj_call (X := GrA × Nat × Nat) (fun z => .slice (some ⟨z.1.g12, 0, none⟩) 2 2) (fun _ => []) (fun z => [clF (fun i => z.2.1 ≤ i ∧ i < z.2.2) (at0 z.1.g12) (gramV z.1)]) Tryz.call17 rfl (fun w hp => k_grammar w) rfl ?_
      rintro ⟨a90, n90, m90⟩
      dsimp only [List.nil_append, List.cons_append]
      refine oj_nil ?_
      refine ej_pl (lt_y (y_loadN Tryz.isAgg26 Tryz.sizeOf26 rfl) rfl (lt_nil)) ?_
      refine pl_w1 2 (by kernel_rfl) rfl rfl (pl_fire rfl rfl rfl (by kernel_rfl) ?_)
      refine oj_call (X := Nat) (fun x => .agg #[.string sGem, .slice (some ⟨x, 0, none⟩) 1 1, .slice none 0 0]) (fun _ => []) (fun x => [litS x 1 enStr [sNone]]) Tryz.call16 rfl (fun w hp => k_gem sNone w) rfl (fun g92 => ?_)
      dsimp only [List.nil_append, List.cons_append]
      refine oj_nil ?_
      refine ej_pl (lt_y (y_loadN Tryz.isAgg26 Tryz.sizeOf26 rfl) rfl (lt_nil)) ?_
      refine pl_w1 3 (by kernel_rfl) rfl rfl (pl_fire rfl rfl rfl (by kernel_rfl) ?_)
      refine oj_buildSlice (cs := [.string sGem, .slice (some ⟨g92, 0, none⟩) 1 1, .slice none 0 0]) [.string ⟨#[]⟩, .slice none 0 0, .slice none 0 0] Tryz.underlying24 Tryz.sizeOf26 Tryz.zeroValue26 rfl rfl (by kernel_rfl) (by kernel_rfl) rfl (fun b93 => ?_)
      refine oj_nil ?_
      refine ej_pl (lt_y (y_loadN Tryz.isAgg26 Tryz.sizeOf26 rfl) rfl (lt_nil)) ?_
      refine pl_w1 4 (by kernel_rfl) rfl rfl (pl_fire rfl rfl rfl (by kernel_rfl) ?_)
      refine oj_call (X := Nat) (fun x => .agg #[.string sRing, .slice (some ⟨x, 0, none⟩) 2 2, .slice (some ⟨b93, 0, none⟩) 1 1]) (fun _ => []) (fun x => [litS x 1 enStr [sGold, sNone]]) Tryz.call15 rfl (fun w hp => k_jewel sNone (some ⟨b93, 0, none⟩) 1 1 w) rfl (fun j94 => ?_)
      dsimp only [List.nil_append, List.cons_append]
      refine oj_nil ?_
      refine ej_pl (lt_y (y_loadN Tryz.isAgg26 Tryz.sizeOf26 rfl) rfl (lt_nil)) ?_
      refine pl_y 5 rfl (y_call Tryz.call41 rfl (fun w hp => ew_Cov2 a90 w (hp_cl hp (fun i => n90 ≤ i ∧ i < m90) (at0 a90.g12) (gramV a90)) j23 b22 g20 g21 (ring_good (b := j23) (g := b22) (s := sNone) (parts := [gemV g20 sRound, gemV g21 sNone]) hp.rd (by decide) (hp.rdLit (b := b22) (sz := 3) (enc := encIt) [gemV g20 sRound, gemV g21 sNone] (fun _ => rfl) rfl (by unfold maxLen; simp)) (fun p hpp => by
        simp only [List.mem_cons, List.mem_nil_iff, or_false] at hpp
        rcases hpp with rfl | rfl
        · exact (gem_good (b := g20) (s := sRound) hp.rd (by decide))
        · exact (gem_good (b := g21) (s := sNone) hp.rd (by decide)))) j94 b93 g92 (ring_good (b := j94) (g := b93) (s := sNone) (parts := [gemV g92 sNone]) hp.rd (by decide) (hp.rdLit (b := b93) (sz := 3) (enc := encIt) [gemV g92 sNone] (fun _ => rfl) rfl (by unfold maxLen; simp)) (fun p hpp => by
        simp only [List.mem_cons, List.mem_nil_iff, or_false] at hpp
        rcases hpp with rfl
        · exact (gem_good (b := g92) (s := sNone) hp.rd (by decide)))))) rfl rfl rfl rfl (by kernel_rfl) ?_
      refine pl_y 6 rfl (y_move rfl) rfl rfl rfl rfl (by kernel_rfl) ?_
      refine pl_y 7 rfl (y_extract rfl rfl) rfl rfl rfl rfl (by kernel_rfl) ?_
      refine pl_y 8 rfl (y_extract rfl rfl) rfl rfl rfl rfl (by kernel_rfl) ?_
      refine pl_y 9 rfl (y_assign rfl) rfl rfl rfl rfl (by kernel_rfl) ?_
      refine pl_y 10 rfl (y_assign rfl) rfl rfl rfl rfl (by kernel_rfl) ?_
      refine pl_end (by kernel_rfl) ?_
      refine ej_th (cj_seq (cj_region ?_))
      refine oj_call (X := Nat × Nat × Nat × Nat × Nat) (fun z => .agg #[.slice (some ⟨z.1, 0, none⟩) 2 2, .slice (some ⟨z.2.1, 0, none⟩) 2 2, .slice (some ⟨z.2.2.1, 0, none⟩) 2 2]) (fun _ => []) (fun z => [litS z.1 2 encMe mEx, litS z.2.1 1 enInt tEx, litS z.2.2.1 1 encFk (fEx z.2.2.2.1 z.2.2.2.2), litS z.2.2.2.1 2 encSp [⟨90, 93⟩, ⟨900, 1100⟩], litS z.2.2.2.2 2 encSp [⟨95, 105⟩, ⟨1016, 1030⟩]]) Tryz.call19 rfl (fun w hp => k_skillEx w) rfl ?_
      rintro ⟨mm, mt, mf, m1, m2⟩
      dsimp only [List.nil_append, List.cons_append]
      refine oj_alloc Tryz.zeroValue52 rfl rfl (fun b13 => ?_)
      refine oj_store rfl rfl rfl rfl Tryz.sizeOf52 rfl ?_
      refine oj_nil ?_
      refine ej_th (cj_seq (cj_region ?_))
      refine oj_step (y_fa0 fa52_0 rfl) rfl rfl rfl ?_
      refine oj_step (y_load1 Tryz.isAgg48 rfl rfl) rfl rfl rfl ?_
      refine oj_buildSlice (cs := [.int .i64 100, .int .i64 1000]) [.int .i64 0, .int .i64 0] Tryz.underlying49 Tryz.sizeOf3 Tryz.zeroValue3 rfl rfl (by kernel_rfl) (by kernel_rfl) rfl (fun b102 => ?_)
      refine oj_buildSlice (cs := [.int .i64 103, .int .i64 (-1)]) [.int .i64 0, .int .i64 0] Tryz.underlying49 Tryz.sizeOf3 Tryz.zeroValue3 rfl rfl (by kernel_rfl) (by kernel_rfl) rfl (fun b103 => ?_)
      refine oj_buildSlice (cs := [.slice (some ⟨b102, 0, none⟩) 2 2, .slice (some ⟨b103, 0, none⟩) 2 2]) [.slice none 0 0, .slice none 0 0] Tryz.underlying57 Tryz.sizeOf49 Tryz.zeroValue49 rfl rfl (by kernel_rfl) (by kernel_rfl) rfl (fun b104 => ?_)
      refine oj_callS (fun A c => .tuple #[.slice A ([⟨101, 102⟩, ⟨995, 1005⟩] : List Span).length c, .int .i64 0]) 2 encSp ([⟨101, 102⟩, ⟨995, 1005⟩] : List Span) Tryz.call20 rfl (fun w hp => ew_Narrow (some ⟨mm, 0, none⟩) (some ⟨b104, 0, none⟩) b102 b103 w hp.rd (hp.rdLit (b := b104) (sz := 1) (enc := encLs) (rEx b102 b103) (fun _ => rfl) rfl (by unfold maxLen; simp)) (fun r hr => by
        simp only [List.mem_cons, List.mem_nil_iff, or_false] at hr
        rcases hr with rfl | rfl
        · exact (hp.rdLit (b := b102) (sz := 1) (enc := enInt) [100, 1000] (fun _ => rfl) rfl (by unfold maxLen; simp))
        · exact (hp.rdLit (b := b103) (sz := 1) (enc := enInt) [103, -1] (fun _ => rfl) rfl (by unfold maxLen; simp)))) rfl (fun A105 c105 fp105 hfp105 => ?_)
      refine oj_step (y_move rfl) rfl rfl rfl ?_
      refine oj_step (y_extract rfl rfl) rfl rfl rfl ?_
      refine oj_step (y_extract rfl rfl) rfl rfl rfl ?_
      refine oj_step (y_assign rfl) rfl rfl rfl ?_
      refine oj_step (y_assign rfl) rfl rfl rfl ?_
      refine oj_nil ?_
      refine ej_th (cj_seq (cj_region ?_))
      refine oj_step (y_fa0 fa52_0 rfl) rfl rfl rfl ?_
      refine oj_step (y_load1 Tryz.isAgg48 rfl rfl) rfl rfl rfl ?_
      refine oj_step (y_fa fa52_1 rfl) rfl rfl rfl ?_
      refine oj_step (y_load1 Tryz.isAgg49 rfl rfl) rfl rfl rfl ?_
      refine oj_step (y_fa fa52_2 rfl) rfl rfl rfl ?_
      refine oj_step (y_load1 Tryz.isAgg50 rfl rfl) rfl rfl rfl ?_
      refine oj_callS (fun A c => .tuple #[.slice A ([0, 1] : List Int).length c, .int .i64 5, .int .i64 0]) 1 enInt ([0, 1] : List Int) Tryz.call24 rfl (fun w hp => ew_Least (some ⟨mm, 0, none⟩) (some ⟨mt, 0, none⟩) (some ⟨mf, 0, none⟩) m1 m2 w hp.rd hp.rd hp.rd (fun f hff => by
        simp only [List.mem_cons, List.mem_nil_iff, or_false] at hff
        rcases hff with rfl | rfl
        · exact hp.rd
        · exact hp.rd)) rfl (fun A115 c115 fp115 hfp115 => ?_)
      refine oj_step (y_move rfl) rfl rfl rfl ?_
      refine oj_step (y_extract rfl rfl) rfl rfl rfl ?_
      refine oj_step (y_extract rfl rfl) rfl rfl rfl ?_
      refine oj_step (y_extract rfl rfl) rfl rfl rfl ?_
      refine oj_step (y_assign rfl) rfl rfl rfl ?_
      refine oj_step (y_assign rfl) rfl rfl rfl ?_
      refine oj_step (y_assign rfl) rfl rfl rfl ?_
      refine oj_nil ?_
      refine ej_th (cj_seq (cj_seq (cj_region ?_)))
      refine oj_step (y_move rfl) rfl rfl rfl ?_
      refine oj_step (y_neq rfl rfl) rfl rfl rfl ?_
      refine oj_step (y_move rfl) rfl rfl rfl ?_
      refine oj_yes rfl rfl rfl ?_
      refine oj_step (y_move rfl) rfl rfl rfl ?_
      refine oj_yes rfl rfl rfl ?_
      refine oj_step (y_neq rfl rfl) rfl rfl rfl ?_
      refine oj_step (y_pick rfl rfl rfl) rfl rfl rfl ?_
      refine oj_step (y_move rfl) rfl rfl rfl ?_
      refine oj_yes rfl rfl rfl ?_
      refine oj_step (y_move rfl) rfl rfl rfl ?_
      refine oj_yes rfl rfl rfl ?_
      refine oj_step (y_neq rfl rfl) rfl rfl rfl ?_
      refine oj_step (y_pick rfl rfl rfl) rfl rfl rfl ?_
      refine oj_step (y_move rfl) rfl rfl rfl ?_
      refine oj_yes rfl rfl rfl ?_
      refine oj_step (y_move rfl) rfl rfl rfl ?_
      refine oj_yes rfl rfl rfl ?_
      refine oj_step (y_neq rfl rfl) rfl rfl rfl ?_
      refine oj_step (y_pick rfl rfl rfl) rfl rfl rfl ?_
      refine oj_step (y_move rfl) rfl rfl rfl ?_
      refine oj_yes rfl rfl rfl ?_
      refine oj_step (y_move rfl) rfl rfl rfl ?_
      refine oj_yes rfl rfl rfl ?_
      refine oj_step (y_not rfl) rfl rfl rfl ?_
      refine oj_step (y_pick rfl rfl rfl) rfl rfl rfl ?_
      refine oj_step (y_move rfl) rfl rfl rfl ?_
      refine oj_yes rfl rfl rfl ?_
      refine oj_step (y_move rfl) rfl rfl rfl ?_
      refine oj_step (y_pick rfl rfl rfl) rfl rfl rfl ?_
      refine oj_step (y_move rfl) rfl rfl rfl ?_
      refine oj_yes rfl rfl rfl ?_
      refine oj_step (y_move rfl) rfl rfl rfl ?_
      refine oj_yes rfl rfl rfl ?_
      refine oj_step (y_build (cs := [.int .i64 101, .int .i64 102]) st70 rfl (by kernel_rfl)) rfl rfl rfl ?_
      refine oj_yes rfl rfl rfl ?_
      refine oj_step (y_build (cs := [.int .i64 995, .int .i64 1005]) st70 rfl (by kernel_rfl)) rfl rfl rfl ?_
      refine oj_yes rfl rfl rfl ?_
      refine oj_buildSlice (cs := [.int .i64 101, .int .i64 102, .int .i64 995, .int .i64 1005]) [.int .i64 0, .int .i64 0, .int .i64 0, .int .i64 0] Tryz.underlying54 Tryz.sizeOf70 Tryz.zeroValue70 rfl rfl (by kernel_rfl) (by kernel_rfl) rfl (fun b144 => ?_)
      refine oj_yes rfl rfl rfl ?_
      refine oj_step (y_call Tryz.call42 rfl (fun w hp => k_SameSp ([⟨101, 102⟩, ⟨995, 1005⟩] : List Span) ([⟨101, 102⟩, ⟨995, 1005⟩] : List Span) A105 (some ⟨b144, 0, none⟩) c105 2 w hp.rd (hp.rdLit (b := b144) (sz := 2) (enc := encSp) ([⟨101, 102⟩, ⟨995, 1005⟩] : List Span) (fun _ => rfl) rfl (by unfold maxLen; simp)))) rfl rfl rfl ?_
      refine oj_yes rfl rfl rfl ?_
      refine oj_step (y_not rfl) rfl rfl rfl ?_
      refine oj_step (y_pick rfl rfl rfl) rfl rfl rfl ?_
      refine oj_step (y_move rfl) rfl rfl rfl ?_
      refine oj_yes rfl rfl rfl ?_
      refine oj_step (y_move rfl) rfl rfl rfl ?_
      refine oj_yes rfl rfl rfl ?_
      refine oj_buildSlice (cs := [.int .i64 0, .int .i64 1]) [.int .i64 0, .int .i64 0] Tryz.underlying49 Tryz.sizeOf3 Tryz.zeroValue3 rfl rfl (by kernel_rfl) (by kernel_rfl) rfl (fun b150 => ?_)
      refine oj_yes rfl rfl rfl ?_
      refine oj_step (y_call Tryz.call26 rfl (fun w hp => k_Same ([0, 1] : List Int) ([0, 1] : List Int) A115 (some ⟨b150, 0, none⟩) c115 2 w hp.rd (hp.rdLit (b := b150) (sz := 1) (enc := enInt) ([0, 1] : List Int) (fun _ => rfl) rfl (by unfold maxLen; simp)))) rfl rfl rfl ?_
      refine oj_yes rfl rfl rfl ?_
      refine oj_step (y_not rfl) rfl rfl rfl ?_
      refine oj_step (y_pick rfl rfl rfl) rfl rfl rfl ?_
      refine oj_step (y_move rfl) rfl rfl rfl ?_
      refine oj_yes rfl rfl rfl ?_
      refine oj_step (y_move rfl) rfl rfl rfl ?_
      refine oj_yes rfl rfl rfl ?_
      refine oj_step (y_neq rfl rfl) rfl rfl rfl ?_
      refine oj_step (y_pick rfl rfl rfl) rfl rfl rfl ?_
      refine oj_nil ?_
      refine ej_th ?_
      refine cj_cond rfl (fun h157 => ?_) (fun h157 => ?_)
      · exact absurd h157 (by decide)
      · have h157b := h157
        try simp only [sxb] at h157
        refine cj_skip (ej_th (cj_seq ?_))
        refine cj_plan 14 (by kernel_rfl) (by kernel_rfl) ?_
        refine pl_y 0 rfl (y_fa0 fa52_0 rfl) rfl rfl rfl rfl (by kernel_rfl) ?_
        refine pl_y 1 rfl (y_load1 Tryz.isAgg48 rfl rfl) rfl rfl rfl rfl (by kernel_rfl) ?_
        refine pl_y 2 rfl (y_fa fa52_1 rfl) rfl rfl rfl rfl (by kernel_rfl) ?_
        refine pl_y 3 rfl (y_load1 Tryz.isAgg49 rfl rfl) rfl rfl rfl rfl (by kernel_rfl) ?_
        refine pl_y 4 rfl (y_fa fa52_2 rfl) rfl rfl rfl rfl (by kernel_rfl) ?_
        refine pl_y 5 rfl (y_load1 Tryz.isAgg50 rfl rfl) rfl rfl rfl rfl (by kernel_rfl) ?_
        refine pl_y 6 rfl (y_ixR (reads_sl (xs := fEx m1 m2) (enc := encFk) (sz := 1)) Tryz.underlying50 Tryz.sizeOf63 rfl rfl ⟨by decide, show (0 : Int) < ((2 : Nat) : Int) by decide⟩) rfl rfl rfl rfl (by kernel_rfl) ?_
        refine pl_y 7 rfl (y_ldW (reads_sl) Tryz.isAgg63 Tryz.sizeOf63 rfl (rfl) (fun _ => rfl)) rfl rfl rfl rfl (by kernel_rfl) ?_
        refine pl_w1 8 (by kernel_rfl) rfl rfl (pl_fire rfl rfl rfl (by kernel_rfl) ?_)
        refine oj_callS (fun A c => .tuple #[.slice A ([0] : List Int).length c, .int .i64 0]) 1 enInt ([0] : List Int) Tryz.call22 rfl (fun w hp => ew_Finds (some ⟨mm, 0, none⟩) (some ⟨mt, 0, none⟩) m1 w hp.rd hp.rd hp.rd) rfl (fun A167 c167 fp167 hfp167 => ?_)
        refine oj_nil ?_
        refine ej_pl (lt_w (by kernel_rfl) (lt_y (y_ixR (reads_sl (xs := fEx m1 m2) (enc := encFk) (sz := 1)) Tryz.underlying50 Tryz.sizeOf63 rfl rfl ⟨by decide, show (0 : Int) < ((2 : Nat) : Int) by decide⟩) rfl (lt_y (y_load1 Tryz.isAgg50 rfl rfl) rfl (lt_y (y_fa fa52_2 rfl) rfl (lt_w (by kernel_rfl) (lt_y (y_fa fa52_1 rfl) rfl (lt_w (by kernel_rfl) (lt_y (y_fa0 fa52_0 rfl) rfl (lt_nil))))))))) ?_
        refine pl_y 9 rfl (y_move rfl) rfl rfl rfl rfl (by kernel_rfl) ?_
        refine pl_y 10 rfl (y_extract rfl rfl) rfl rfl rfl rfl (by kernel_rfl) ?_
        refine pl_y 11 rfl (y_extract rfl rfl) rfl rfl rfl rfl (by kernel_rfl) ?_
        refine pl_y 12 rfl (y_assign rfl) rfl rfl rfl rfl (by kernel_rfl) ?_
        refine pl_y 13 rfl (y_assign rfl) rfl rfl rfl rfl (by kernel_rfl) ?_
        refine pl_end (by kernel_rfl) ?_
        refine ej_th (cj_seq (cj_region ?_))
        refine oj_step (y_fa0 fa52_0 rfl) rfl rfl rfl ?_
        refine oj_step (y_load1 Tryz.isAgg48 rfl rfl) rfl rfl rfl ?_
        refine oj_step (y_fa fa52_1 rfl) rfl rfl rfl ?_
        refine oj_step (y_load1 Tryz.isAgg49 rfl rfl) rfl rfl rfl ?_
        refine oj_buildSlice (cs := [.int .i64 104, .int .i64 1010]) [.int .i64 0, .int .i64 0] Tryz.underlying49 Tryz.sizeOf3 Tryz.zeroValue3 rfl rfl (by kernel_rfl) (by kernel_rfl) rfl (fun b175 => ?_)
        refine oj_step (y_call Tryz.call21 rfl (fun w hp => ew_Agree (some ⟨mm, 0, none⟩) (some ⟨mt, 0, none⟩) (some ⟨b175, 0, none⟩) w hp.rd hp.rd (hp.rdLit (b := b175) (sz := 1) (enc := enInt) [104, 1010] (fun _ => rfl) rfl (by unfold maxLen; simp)))) rfl rfl rfl ?_
        refine oj_step (y_move rfl) rfl rfl rfl ?_
        refine oj_step (y_extract rfl rfl) rfl rfl rfl ?_
        refine oj_step (y_extract rfl rfl) rfl rfl rfl ?_
        refine oj_step (y_assign rfl) rfl rfl rfl ?_
        refine oj_step (y_assign rfl) rfl rfl rfl ?_
        refine oj_nil ?_
        refine ej_th (cj_seq (cj_region ?_))
        refine oj_step (y_fa0 fa52_0 rfl) rfl rfl rfl ?_
        refine oj_step (y_load1 Tryz.isAgg48 rfl rfl) rfl rfl rfl ?_
        refine oj_step (y_fa fa52_1 rfl) rfl rfl rfl ?_
        refine oj_step (y_load1 Tryz.isAgg49 rfl rfl) rfl rfl rfl ?_
        refine oj_step (y_fa fa52_2 rfl) rfl rfl rfl ?_
        refine oj_step (y_load1 Tryz.isAgg50 rfl rfl) rfl rfl rfl ?_
        refine oj_buildSlice (cs := [.int .i64 1, .int .i64 4]) [.int .i64 0, .int .i64 0] Tryz.underlying49 Tryz.sizeOf3 Tryz.zeroValue3 rfl rfl (by kernel_rfl) (by kernel_rfl) rfl (fun b186 => ?_)
        refine oj_step (y_call Tryz.call25 rfl (fun w hp => ew_Bound (some ⟨mm, 0, none⟩) (some ⟨mt, 0, none⟩) (some ⟨mf, 0, none⟩) (some ⟨b186, 0, none⟩) m1 m2 w hp.rd hp.rd hp.rd (fun f hff => by
          simp only [List.mem_cons, List.mem_nil_iff, or_false] at hff
          rcases hff with rfl | rfl
          · exact hp.rd
          · exact hp.rd) (hp.rdLit (b := b186) (sz := 1) (enc := enInt) [1, 4] (fun _ => rfl) rfl (by unfold maxLen; simp)))) rfl rfl rfl ?_
        refine oj_step (y_move rfl) rfl rfl rfl ?_
        refine oj_step (y_extract rfl rfl) rfl rfl rfl ?_
        refine oj_step (y_extract rfl rfl) rfl rfl rfl ?_
        refine oj_step (y_assign rfl) rfl rfl rfl ?_
        refine oj_step (y_assign rfl) rfl rfl rfl ?_
        refine oj_nil ?_
        refine ej_th (cj_seq (cj_region ?_))
        refine oj_step (y_move rfl) rfl rfl rfl ?_
        refine oj_step (y_eql rfl rfl) rfl rfl rfl ?_
        refine oj_step (y_move rfl) rfl rfl rfl ?_
        refine oj_yes rfl rfl rfl ?_
        refine oj_step (y_move rfl) rfl rfl rfl ?_
        refine oj_yes rfl rfl rfl ?_
        refine oj_step (y_eql rfl rfl) rfl rfl rfl ?_
        refine oj_step (y_pick rfl rfl rfl) rfl rfl rfl ?_
        refine oj_step (y_move rfl) rfl rfl rfl ?_
        refine oj_yes rfl rfl rfl ?_
        refine oj_step (y_move rfl) rfl rfl rfl ?_
        refine oj_yes rfl rfl rfl ?_
        refine oj_step (y_eql rfl rfl) rfl rfl rfl ?_
        refine oj_step (y_pick rfl rfl rfl) rfl rfl rfl ?_
        refine oj_step (y_move rfl) rfl rfl rfl ?_
        refine oj_yes rfl rfl rfl ?_
        refine oj_step (y_move rfl) rfl rfl rfl ?_
        refine oj_yes rfl rfl rfl ?_
        refine oj_buildSlice (cs := [.int .i64 0]) [.int .i64 0] Tryz.underlying49 Tryz.sizeOf3 Tryz.zeroValue3 rfl rfl (by kernel_rfl) (by kernel_rfl) rfl (fun b202 => ?_)
        refine oj_yes rfl rfl rfl ?_
        refine oj_step (y_call Tryz.call26 rfl (fun w hp => k_Same ([0] : List Int) ([0] : List Int) A167 (some ⟨b202, 0, none⟩) c167 1 w hp.rd (hp.rdLit (b := b202) (sz := 1) (enc := enInt) ([0] : List Int) (fun _ => rfl) rfl (by unfold maxLen; simp)))) rfl rfl rfl ?_
        refine oj_step (y_pick rfl rfl rfl) rfl rfl rfl ?_
        refine oj_step (y_move rfl) rfl rfl rfl ?_
        refine oj_yes rfl rfl rfl ?_
        refine oj_step (y_move rfl) rfl rfl rfl ?_
        refine oj_step (y_pick rfl rfl rfl) rfl rfl rfl ?_
        refine oj_step (y_move rfl) rfl rfl rfl ?_
        refine oj_yes rfl rfl rfl ?_
        refine oj_step (y_move rfl) rfl rfl rfl ?_
        refine oj_yes rfl rfl rfl ?_
        refine oj_step (y_eql rfl rfl) rfl rfl rfl ?_
        refine oj_step (y_pick rfl rfl rfl) rfl rfl rfl ?_
        refine oj_step (y_assign rfl) rfl rfl rfl ?_
        refine oj_nil ?_
        refine ej_th (cj_ret ?_)
        exact ej_ret1 rfl Tryz.results11 rfl (fun w' hp => ⟨rfl, hp.below⟩)

end Go.Proofs.YtlfbghkcfmcnlaaGreatDoor
namespace Go.Proofs.YtlfbghkcfmcnlaaGreatDoor
open Go.Sx Go.RowKit

/-! ### Words -/
/-! ### The class of an item -/
/-! ### Valid, and counting -/
/-! ### As the reference's text has it -/
end Go.Proofs.YtlfbghkcfmcnlaaGreatDoor
namespace Go.Proofs.YtlfbghkcfmcnlaaGreatDoor
open Go.Sx Go.RowKit

/-! ### Assigning parts -/
/-! ### Putting an item where it belongs -/
section
variable {α : Type} (lt : α → α → Bool)
structure Weak : Prop where
  tr : ∀ a b c, lt a b = true → lt c b = false → lt a c = true
  asy : ∀ a b, lt a b = true → lt b a = false
variable {lt}
end
/-! ### The text, put together piece by piece -/
/-- a blank before each -/
def bl : List ByteArray → ByteArray
  | [] => ⟨#[]⟩
  | s :: l => tBl ++ (s ++ bl l)
theorem ba_ext {a b : ByteArray} (h : a.data.toList = b.data.toList) : a = b := by
  cases a; cases b; congr 1; exact Array.toList_inj.1 h
theorem ba_app (a b : ByteArray) : (a ++ b).data.toList = a.data.toList ++ b.data.toList := by simp
theorem jn_bl (s : ByteArray) : ∀ l : List ByteArray, jn (s :: l) = s ++ bl l := by
  intro l
  refine ba_ext ?_
  induction l generalizing s with
  | nil => rw [bl]; simp [jn, List.intercalate]
  | cons t l ih =>
    have := ih t
    rw [ba_app, bl, ba_app, ba_app]
    rw [ba_app] at this
    rw [← this]
    simp [jn, List.intercalate]
end Go.Proofs.YtlfbghkcfmcnlaaGreatDoor
namespace Go.Proofs.YtlfbghkcfmcnlaaGreatDoor
open Go.Sx Go.RowKit

/-- a class's names are words, and different; what is said is a word, or nothing -/
inductive OkN (g : List (ByteArray × ClassV)) : IT → Prop
  | mk {x : IT} (hc : isW x.cls = true) (h : x.says.length = (traitsOf g x.cls).length) (hw : ∀ t ∈ traitsOf g x.cls, isW t.name = true) (hn : ((traitsOf g x.cls).map (·.name)).Nodup) (hs : ∀ s ∈ x.says, s = ⟨#[]⟩ ∨ isW s = true) (hr : ∀ p ∈ x.parts, OkN g p) : OkN g x
theorem OkN.cls {g : List (ByteArray × ClassV)} {x : IT} (h : OkN g x) : isW x.cls = true := by cases h; assumption
theorem OkN.len {g : List (ByteArray × ClassV)} {x : IT} (h : OkN g x) : x.says.length = (traitsOf g x.cls).length := by cases h; assumption
theorem OkN.tn {g : List (ByteArray × ClassV)} {x : IT} (h : OkN g x) : ((traitsOf g x.cls).map (·.name)).Nodup := by cases h; assumption
theorem OkN.pt {g : List (ByteArray × ClassV)} {x : IT} (h : OkN g x) : ∀ p ∈ x.parts, OkN g p := by cases h; assumption
/-! ### Bytes -/
abbrev by_ (s : ByteArray) : List UInt8 := s.data.toList
/-- a token that says nothing of a trait -/
abbrev noE (t : ByteArray) : Prop := (61 : UInt8) ∉ by_ t
theorem noE_tok {n s : ByteArray} (h : noE (n ++ tEq ++ s)) : False := h (by simp only [by_, ba_app]; simp)

/-! ### The text and its tokens -/
/-- a token without a blank -/
abbrev noB (t : ByteArray) : Prop := (32 : UInt8) ∉ by_ t
end Go.Proofs.YtlfbghkcfmcnlaaGreatDoor
namespace Go.Proofs.YtlfbghkcfmcnlaaGreatDoor
open Go.Sx Go.RowKit

/-! ### From the search -/

/-! ### What is said grows -/
theorem OkN.lens {g : List (ByteArray × ClassV)} {a b : IT} (ha : OkN g a) (hb : OkN g b) (h : a.cls = b.cls) : a.says.length = b.says.length := by rw [ha.len, hb.len, h]

/-! ### The order of descriptions -/
end Go.Proofs.YtlfbghkcfmcnlaaGreatDoor
namespace Go.Sx
open Go.RowKit
section
variable {C : Cx} {Q : Exit → Act → World → Prop} {L : Regs} {O S : List Fact} {ops : Array Oper}
end
/-! ### Drawn regions with guards that are known -/
section
variable {C : Cx} {Q : Exit → Act → World → Prop} {l : List Oper} {n : Nat} {his : List Nat} {pend : List Pend} {L : Regs} {O S : List Fact}
theorem steps_yY {o : Oper} {ops : Array Oper} {v : Value} {j dj : Nat} {b g : Bool} (ho : o.guard = some (j, b)) (hj : (ops[j]?).bind (·.dst) = some dj) (hl : look L dj = some (.bool g)) (e : g = b) (hy : Yi C o L O S v) : Steps1 C ops O S o L v :=
  fun a w hr hp => .inl ⟨by rw [wanted_of hr ho hj hl, e]; simp, hy.1, hy.2 a w hr hp⟩
theorem pl_yY (i : Nat) {o : Oper} {d : Nat} {v : Value} {j dj : Nat} {b g : Bool} (hi : l[i]? = some o) (ho : o.guard = some (j, b)) (hj : (l.toArray[j]?).bind (·.dst) = some dj) (hl : look L dj = some (.bool g)) (e : g = b) (hy : Yi C o L O S v) (hd : o.dst = some d) (hdN : Nat.blt d C.N = true) (hn : his.contains i = false) (hs : seesOk l his i o = true)
    (k : Plan C l Q n (i :: his) (⟨i, o, L, v⟩ :: pend) ((d, v) :: L) O S) : Plan C l Q (n + 1) his pend L O S :=
  .inl ⟨i, o, d, v, hi, hd, by simpa [Nat.blt_eq] using hdN, by simpa using hn, hs, steps_yY ho hj hl e hy, k⟩
theorem pl_fireG {i : Nat} {o : Oper} {j dj : Nat} {b g : Bool} (hi : l[i]? = some o) (ho : o.guard = some (j, b)) (hj : (l.toArray[j]?).bind (·.dst) = some dj) (hl : look L dj = some (.bool g)) (e : g = b) (hd : (match o.dst with | some d => Nat.blt d C.N | none => true) = true) (hs : seesOk l his i o = true)
    (h : OJ C l.toArray (NP C Q fun a' w' => ∃ F' w0' L' O' S', RegsOk C.N C.D L' a' ∧ Hp F' w0' O' S' w' ∧ Later (C.mv F' w0') l pend o O' S' ∧ Plan (C.mv F' w0') l Q n (i :: his) pend L' O' S') [o] L O S) : Fires C l Q n his pend L O S i :=
  ⟨o, hi, fun a hr => by rw [wanted_of hr ho hj hl, e]; simp, fun d hd' => by rw [hd'] at hd; simpa [Nat.blt_eq] using hd, hs, h⟩
theorem lt_yY {o o' : Oper} {i : Nat} {L' : Regs} {v : Value} {j dj : Nat} {b g : Bool} (ho : o'.guard = some (j, b)) (hj : (l.toArray[j]?).bind (·.dst) = some dj) (hl : look L' dj = some (.bool g)) (e : g = b) (h : Yi C o' L' O S v) (k : Later C l pend o O S) : Later C l (⟨i, o', L', v⟩ :: pend) o O S := fun q hq => by
  rcases List.mem_cons.1 hq with e1 | e1
  · subst e1; exact .inr (steps_yY ho hj hl e h)
  · exact k q e1
theorem oj_yesE {ops : Array Oper} {rest : List Oper} {o : Oper} {j dj : Nat} {b g : Bool} (ho : o.guard = some (j, b)) (hj : (ops[j]?).bind (·.dst) = some dj) (hl : look L dj = some (.bool g)) (e : g = b) (k : OJ C ops Q (⟨o.dst, o.op, o.type, o.pos, o.after, none⟩ :: rest) L O S) : OJ C ops Q (o :: rest) L O S :=
  oj_yes ho hj (by rw [hl, e]) k
end
section
variable {C : Cx} {L : Regs} {O S : List Fact} {dst : Option Tmp} {ty : TypeId} {pos : String} {aft : Array Edge} {gu : Option (Nat × Bool)} {c x y : Operand} {g : Bool}
theorem y_pickF {v : Value} (hc : val L c = some (.bool g)) (e : g = false) (hy : val L y = some v) : Yi C ⟨dst, .pick c x y, ty, pos, aft, gu⟩ L O S v :=
  yi_val (by intro c h; cases h) fun a w hr _ => by
    subst e; simp [execOp, hr.val hc, hr.val hy, asBool]
end
/-! ### Facts in another order -/
theorem Hp.permO {F : Nat → Prop} {w0 w : World} {O O' S : List Fact} (h : Hp F w0 O S w) (hp : O.Perm O') : Hp F w0 O' S w :=
  ⟨h.os, h.tape, h.output, h.size, h.fr, fun f hf => h.own f (hp.symm.subset hf), hp.pairwise h.apart (fun hxy b hb hb' => hxy b hb' hb), fun f hf => ⟨(h.shared f hf).1, (h.shared f hf).2.1, fun g hg => (h.shared f hf).2.2 g (hp.symm.subset hg)⟩⟩
end Go.Sx
namespace Go.Proofs.YtlfbghkcfmcnlaaGreatDoor
open Go.Sx Go.RowKit
set_option maxRecDepth 20000

end Go.Proofs.YtlfbghkcfmcnlaaGreatDoor
namespace Go.Proofs.YtlfbghkcfmcnlaaGreatDoor
open Go.Sx Go.RowKit
set_option maxRecDepth 20000
end Go.Proofs.YtlfbghkcfmcnlaaGreatDoor
namespace Go.Proofs.YtlfbghkcfmcnlaaGreatDoor
open Go.Sx Go.RowKit
set_option maxRecDepth 20000

end Go.Proofs.YtlfbghkcfmcnlaaGreatDoor
namespace Go.Proofs.YtlfbghkcfmcnlaaGreatDoor
open Go.Sx Go.RowKit
set_option maxRecDepth 20000
end Go.Proofs.YtlfbghkcfmcnlaaGreatDoor
namespace Go.Proofs.YtlfbghkcfmcnlaaGreatDoor
open Go.Sx Go.RowKit
set_option maxRecDepth 20000

end Go.Proofs.YtlfbghkcfmcnlaaGreatDoor
namespace Go.Proofs.YtlfbghkcfmcnlaaGreatDoor
open Go.Sx Go.RowKit
set_option maxRecDepth 20000
end Go.Proofs.YtlfbghkcfmcnlaaGreatDoor
namespace Go.Proofs.YtlfbghkcfmcnlaaGreatDoor
open Go.Sx Go.RowKit
/-- What a token says of a trait. -/
def cutP (n t : ByteArray) : Option ByteArray := if (by_ (n ++ tEq)).isPrefixOf (by_ t) = true then some ⟨((by_ t).drop (by_ (n ++ tEq)).length).toArray⟩ else none
def rdS : List TraitV → List ByteArray → Option (List ByteArray × List ByteArray)
  | [], r => some ([], r)
  | t :: ts, r => match cutP t.name (r.headD ⟨#[]⟩) with
    | some s => if s = ⟨#[]⟩ then none else (rdS ts r.tail).map fun o => (s :: o.1, o.2)
    | none => (rdS ts r).map fun o => (⟨#[]⟩ :: o.1, o.2)
def rdP (f : List ByteArray → Option (IT × List ByteArray)) : Nat → List ByteArray → Option (List IT × List ByteArray)
  | 0, _ => none
  | n + 1, r => match f r with
    | none => none
    | some (_, []) => none
    | some (p, t :: z) => if t = tClose then some ([p], z) else if t = tSemi then (rdP f n z).map fun o => (p :: o.1, o.2) else none
def rdI (g : List (ByteArray × ClassV)) : Nat → List ByteArray → Option (IT × List ByteArray)
  | 0, _ => none
  | _ + 1, [] => none
  | d + 1, s :: r => match getL g s with
    | none => none
    | some c => match rdS c.traits r with
      | none => none
      | some (ss, []) => some (.mk s ss [], [])
      | some (ss, t :: q) => if t = tOpen then (rdP (rdI g d) q.length q).map (fun o => (.mk s ss o.1, o.2)) else some (.mk s ss [], t :: q)
theorem cut_some {n t s : ByteArray} (h : cutP n t = some s) : t = n ++ tEq ++ s := by
  unfold cutP at h
  split at h
  · rename_i hp
    have e := Option.some.inj h
    apply ba_ext
    rw [List.isPrefixOf_iff_prefix] at hp
    obtain ⟨u, hu⟩ := hp
    rw [← e]
    show by_ t = _
    rw [← hu, List.drop_left]
    show _ = by_ (n ++ tEq ++ ⟨u.toArray⟩)
    simp only [by_, ba_app]
  · cases h
theorem tok_nn (n s : ByteArray) : n ++ tEq ++ s ≠ ⟨#[]⟩ := fun h => noE_tok (n := n) (s := s) (by rw [h]; exact List.not_mem_nil)
/-! what was printed is read -/
end Go.Proofs.YtlfbghkcfmcnlaaGreatDoor
namespace Go.Proofs.YtlfbghkcfmcnlaaGreatDoor
open Go.Sx Go.RowKit
theorem idx_miss {s : ByteArray} (h : Lib.indexB s tBl = -1) : noB s := by
  have h1 : Lib.indexByte s.data.toList 32 = -1 := by rw [← Lib.index_one]; exact h
  intro hm
  obtain ⟨k, hk⟩ := List.getElem?_of_mem hm
  exact Lib.indexByte_none h1 k hk
theorem idx_hit {s : ByteArray} {i : Nat} (h : Lib.indexB s tBl = i) : noB (s.extract 0 (i + 0)) ∧ by_ s = by_ (s.extract 0 (i + 0)) ++ 32 :: by_ (s.extract (i + tBl.size) s.size) := by
  have h1 : Lib.indexByte s.data.toList 32 = i := by rw [← Lib.index_one]; exact h
  obtain ⟨h2, h3⟩ := Lib.indexByte_some h1
  have e1 : by_ (s.extract 0 (i + 0)) = s.data.toList.take i := Lib.extract_from_zero s i
  have e2 : by_ (s.extract (i + tBl.size) s.size) = s.data.toList.drop (i + 1) := Lib.extract_to_end s (i + 1)
  refine ⟨?_, ?_⟩
  · intro hm
    rw [e1] at hm
    obtain ⟨k, hk⟩ := List.getElem?_of_mem hm
    rw [List.getElem?_take] at hk
    split at hk
    · rename_i hki
      exact h3 k hki hk
    · cases hk
  · rw [e1, e2]
    obtain ⟨h4, h5⟩ := List.getElem?_eq_some_iff.1 h2
    conv => lhs; rw [show by_ s = s.data.toList from rfl, ← List.take_append_drop i s.data.toList, List.drop_eq_getElem_cons h4, h5]
theorem split_ok : ∀ (k : Nat) (s : ByteArray), Lib.countB s tBl = k → (∀ u ∈ Lib.splitB tBl 0 k s, noB u) ∧ ∃ a R, Lib.splitB tBl 0 k s = a :: R ∧ by_ a ++ by_ (bl R) = by_ s
  | 0, s, hk => by
    rcases Lib.indexB_cases s tBl with h | ⟨i, h, _⟩
    · rw [Lib.splitB_zero]
      refine ⟨fun u hu => ?_, s, [], rfl, by simp [bl, by_]⟩
      rw [List.mem_singleton.1 hu]
      exact idx_miss h
    · have := Lib.countB_hit s tBl i (by decide) h
      omega
  | k + 1, s, hk => by
    rcases Lib.indexB_cases s tBl with h | ⟨i, h, _⟩
    · rw [Lib.countB_miss s tBl h] at hk; omega
    · have hc := Lib.countB_hit s tBl i (by decide) h
      obtain ⟨h1, h2⟩ := idx_hit h
      rw [Lib.splitB_hit tBl 0 k s i h]
      obtain ⟨ih1, a, R, ih2, ih3⟩ := split_ok k (s.extract (i + tBl.size) s.size) (by omega)
      refine ⟨fun u hu => ?_, _, _, rfl, ?_⟩
      · rcases List.mem_cons.1 hu with rfl | hu
        · exact h1
        · exact ih1 u hu
      · rw [h2, ih2, bl, ← ih3]
        simp [by_, ba_app]
def splitT (s : ByteArray) : List ByteArray := Lib.splitB tBl 0 (Lib.countB s tBl) s
theorem jn_split (s : ByteArray) : jn (splitT s) = s := by
  obtain ⟨h1, a, R, h2, h3⟩ := split_ok _ s rfl
  rw [splitT, h2, jn_bl]
  apply ba_ext
  have : by_ (a ++ bl R) = by_ s := by rw [← h3]; simp [by_, ba_app]
  exact this
theorem bl_sz : ∀ T : List ByteArray, T.length ≤ (bl T).size ∧ ∀ u ∈ T, u.size ≤ (bl T).size
  | [] => ⟨Nat.zero_le _, fun u h => by cases h⟩
  | s :: T => by
    obtain ⟨h1, h2⟩ := bl_sz T
    have e : (bl (s :: T)).size = 1 + (s.size + (bl T).size) := by
      rw [bl, ByteArray.size_append, ByteArray.size_append]; rfl
    refine ⟨by rw [List.length_cons]; omega, fun u hu => ?_⟩
    rcases List.mem_cons.1 hu with rfl | hu
    · omega
    · have := h2 u hu; omega
theorem split_sz (s : ByteArray) : (splitT s).length ≤ s.size + 1 ∧ ∀ u ∈ splitT s, u.size ≤ s.size := by
  obtain ⟨_, a, R, h2, _⟩ := split_ok _ s rfl
  have h4 := jn_split s
  have h5 : splitT s = a :: R := h2
  rw [h5] at h4 ⊢
  obtain ⟨h6, h7⟩ := bl_sz R
  have e : s.size = a.size + (bl R).size := by rw [← h4, jn_bl, ByteArray.size_append]
  refine ⟨by rw [List.length_cons]; omega, fun u hu => ?_⟩
  rcases List.mem_cons.1 hu with rfl | hu
  · omega
  · have := h7 u hu; omega
end Go.Proofs.YtlfbghkcfmcnlaaGreatDoor
namespace Go.Proofs.YtlfbghkcfmcnlaaGreatDoor
open Go.Sx Go.RowKit
/-! what was printed -/
end Go.Proofs.YtlfbghkcfmcnlaaGreatDoor
namespace Go.Sx
open Go.RowKit

/-! ### One cell as the result, behind a range over a function -/
section
variable {C : Cx} {L : Regs} {O S : List Fact}
end

/-! ### Several things of the caller's -/
structure MutL (Os : List Fact) (w w' : World) : Prop where
  os : w'.os = w.os
  tape : w'.tape = w.tape
  output : w'.output = w.output
  size : w.heap.size ≤ w'.heap.size
  same : ∀ b, b < w.heap.size → (∀ f ∈ Os, ¬ f.fp b) → w'.heap[b]? = w.heap[b]?
/-- The facts 'Ps' stand for 'Os' now. -/
structure Giv (Os : List Fact) (w w' : World) (Ps : List Fact) : Prop where
  mu : MutL Os w w'
  has : ∀ f ∈ Ps, f.P w' ∧ ∀ b, f.fp b → b < w'.heap.size ∧ ((∃ g ∈ Os, g.fp b) ∨ w.heap.size ≤ b)
  apart : Ps.Pairwise (fun f g => ∀ b, f.fp b → ¬ g.fp b)
/-- What a function may not touch: all that was there but what it got. -/
def FrO (w : World) (Os : List Fact) : Nat → Prop := fun i => i < w.heap.size ∧ ∀ f ∈ Os, ¬ f.fp i
theorem enterO {P : Program} {f : FuncId} {fn : Func} {c : Code} {args : List Value} {w : World} {R : Ending → World → Prop} (Os S : List Fact)
    (hf : P.funcs[f]? = some fn) (hb : fn.body = some c) (hn : args.length ≤ fn.ntmps) (hO : ∀ f ∈ Os, f.P w ∧ ∀ b, f.fp b → b < w.heap.size) (hap : Os.Pairwise (fun f g => ∀ b, f.fp b → ¬ g.fp b))
    (hS : ∀ g ∈ S, g.P w ∧ ∀ i, g.fp i → i < w.heap.size ∧ ∀ f ∈ Os, ¬ f.fp i)
    (h : CJ ⟨P, none, FrO w Os, w, fn.ntmps, []⟩ c (bodyPost P fn R) (regsOf 0 args) Os S) : Calls P f args.toArray w R :=
  enter (FrO w Os) Os S hf hb hn ⟨rfl, rfl, rfl, Nat.le_refl _, fun _ hi => ⟨hi.1, rfl⟩, fun g hg => ⟨(hO g hg).1, fun b hb => ⟨(hO g hg).2 b hb, fun h => h.2 g hg hb⟩⟩, hap, fun g hg => ⟨(hS g hg).1, fun i hi => ((hS g hg).2 i hi).1, fun o ho i hi hio => ((hS g hg).2 i hi).2 o ho hio⟩⟩ h
theorem Hp.giv {w0 w : World} {Os O S : List Fact} (hp : Hp (FrO w0 Os) w0 O S w) (Ps : List Fact) [h : SubO Ps O] : Giv Os w0 w Ps :=
  ⟨⟨hp.os, hp.tape, hp.output, hp.size, fun b hb hn => (hp.fr b ⟨hb, hn⟩).2⟩, fun f hf => ⟨(hp.own f (h.sub.subset hf)).1, fun b hb => ⟨((hp.own f (h.sub.subset hf)).2 b hb).1, by
    have h1 := ((hp.own f (h.sub.subset hf)).2 b hb).2
    by_cases hlt : b < w0.heap.size
    · left
      refine Classical.byContradiction fun hno => h1 ⟨hlt, fun g hg hgb => hno ⟨g, hg, hgb⟩⟩
    · exact .inr (by omega)⟩⟩, hp.apart.sublist h.sub⟩
theorem Hp.takeGiv {F : Nat → Prop} {w0 w w' : World} {O Os R S Ps : List Fact} (hp : Hp F w0 O S w) (hperm : O.Perm (Os ++ R)) (hg : Giv Os w w' Ps) : Hp F w0 (Ps ++ R) S w' := by
  have h1 := hp.permO hperm
  obtain ⟨hm, hh, hpa⟩ := hg
  have hapx := List.pairwise_append.1 h1.apart
  have hR : ∀ f ∈ R, ∀ b, f.fp b → b < w.heap.size ∧ ∀ g ∈ Os, ¬ g.fp b := fun f hf b hb => ⟨((h1.own f (List.mem_append_right _ hf)).2 b hb).1, fun g hg hgb => hapx.2.2 g hg f hf b hgb hb⟩
  refine ⟨hm.os.trans hp.os, hm.tape.trans hp.tape, hm.output.trans hp.output, Nat.le_trans hp.size hm.size, fun b hb => ?_, fun f hf => ?_, ?_, fun f hf => ?_⟩
  · exact ⟨(h1.fr b hb).1, (hm.same b (Nat.lt_of_lt_of_le (h1.fr b hb).1 h1.size) (fun f hf hfb => ((h1.own f (List.mem_append_left _ hf)).2 b hfb).2 hb)).trans (h1.fr b hb).2⟩
  · rcases List.mem_append.1 hf with hf | hf
    · refine ⟨(hh f hf).1, fun b hb => ⟨((hh f hf).2 b hb).1, fun hF => ?_⟩⟩
      rcases ((hh f hf).2 b hb).2 with ⟨g, hg, hgb⟩ | h3
      · exact ((h1.own g (List.mem_append_left _ hg)).2 b hgb).2 hF
      · have h4 := (h1.fr b hF).1; have h5 := h1.size; omega
    · have h2 := h1.own f (List.mem_append_right _ hf)
      exact ⟨f.stab (fun b hb => hm.same b (h2.2 b hb).1 (hR f hf b hb).2) h2.1, fun b hb => ⟨Nat.lt_of_lt_of_le (h2.2 b hb).1 hm.size, (h2.2 b hb).2⟩⟩
  · refine List.pairwise_append.2 ⟨hpa, hapx.2.1, fun f hf g hg b hb hgb => ?_⟩
    rcases ((hh f hf).2 b hb).2 with ⟨o, ho, hob⟩ | h3
    · exact (hR g hg b hgb).2 o ho hob
    · have := (hR g hg b hgb).1; omega
  · have h2 := h1.shared f hf
    refine ⟨f.stab (fun b hb => hm.same b (h2.2.1 b hb) (fun g hg hgb => h2.2.2 g (List.mem_append_left _ hg) b hb hgb)) h2.1, fun b hb => Nat.lt_of_lt_of_le (h2.2.1 b hb) hm.size, fun o ho b hb hob => ?_⟩
    rcases List.mem_append.1 ho with ho | ho
    · rcases ((hh o ho).2 b hob).2 with ⟨g, hg, hgb⟩ | h3
      · exact h2.2.2 g (List.mem_append_left _ hg) b hb hgb
      · have := h2.2.1 b hb; omega
    · exact h2.2.2 o (List.mem_append_right _ ho) b hb hob
/-- Facts taken out of a list, one by one. -/
class Take1 (O : List Fact) (f : Fact) (R : outParam (List Fact)) : Prop where
  perm : O.Perm (f :: R)
instance (priority := 1000) Take1.head (f : Fact) (O : List Fact) : Take1 (f :: O) f O := ⟨.refl _⟩
instance (priority := 900) Take1.tail (g f : Fact) (O R : List Fact) [h : Take1 O f R] : Take1 (g :: O) f (g :: R) := ⟨(h.perm.cons g).trans (.swap _ _ _)⟩
class Takes (O Os : List Fact) (R : outParam (List Fact)) : Prop where
  perm : O.Perm (Os ++ R)
instance Takes.nil (O : List Fact) : Takes O [] O := ⟨.refl _⟩
instance Takes.cons (O O1 Os R : List Fact) (f : Fact) [h : Take1 O f O1] [k : Takes O1 Os R] : Takes O (f :: Os) R := ⟨h.perm.trans (k.perm.cons f)⟩
theorem Hp.givT {w0 w : World} {Os O S R : List Fact} (hp : Hp (FrO w0 Os) w0 O S w) (Ps : List Fact) [h : Takes O Ps R] : Giv Os w0 w Ps :=
  haveI : SubO Ps (Ps ++ R) := ⟨List.sublist_append_left ..⟩
  (hp.permO h.perm).giv Ps
theorem ej_takes {C : Cx} {Q : Exit → Act → World → Prop} {e : Exit} {L : Regs} {O R S : List Fact} (O' : List Fact) [h : Takes O O' R] (k : EJ C Q e L O' S) : EJ C Q e L O S :=
  fun a w hr hp => k a w hr ((hp.permO h.perm).sub (List.sublist_append_left ..) (fun _ h => h))
theorem cj_takes {C : Cx} {cd : Code} {Q : Exit → Act → World → Prop} {L : Regs} {O R S : List Fact} (O' : List Fact) [h : Takes O O' R] (k : CJ C cd Q L O' S) : CJ C cd Q L O S :=
  fun a w hr hp => k a w hr ((hp.permO h.perm).sub (List.sublist_append_left ..) (fun _ h => h))
theorem Hp.ownL {F : Nat → Prop} {w0 w : World} {O S Os R : List Fact} (hp : Hp F w0 O S w) (h : Takes O Os R) : (∀ f ∈ Os, f.P w ∧ ∀ b, f.fp b → b < w.heap.size) ∧ Os.Pairwise (fun f g => ∀ b, f.fp b → ¬ g.fp b) ∧ ∀ g ∈ S, g.P w ∧ ∀ i, g.fp i → i < w.heap.size ∧ ∀ f ∈ Os, ¬ f.fp i := by
  have h1 := hp.permO h.perm
  refine ⟨fun f hf => ⟨(h1.own f (List.mem_append_left _ hf)).1, fun b hb => ((h1.own f (List.mem_append_left _ hf)).2 b hb).1⟩, (List.pairwise_append.1 h1.apart).1, fun g hg => ⟨(h1.shared g hg).1, fun i hi => ⟨(h1.shared g hg).2.1 i hi, fun f hf => (h1.shared g hg).2.2 f (List.mem_append_left _ hf) i hi⟩⟩⟩
section
variable {C : Cx} {Q : Exit → Act → World → Prop} {L : Regs} {O S : List Fact} {ops : Array Oper} {rest : List Oper} {ty : TypeId} {pos : String} {aft : Array Edge} {d : Nat}
/-- A call (of a function, or a function value) that turns several things. -/
theorem oj_callL {X : Type} {x : Operand} {xs : List Operand} {vs : List Value} {ats : Array TypeId} {f : FuncId} {fi ca : Array Value} (enc : X → Value) (Os : List Fact) (Ps : X → List Fact) {R : List Fact} [ht : Takes O Os R]
    (hf : ∀ args w, (callFunc f args).run C.P w = .ok (.enter f args) w) (hx : val L x = some (.func (.func f) fi ca)) (hv : valsO L xs = some vs)
    (hc : ∀ w, Hp C.F C.w0 O S w → Calls C.P f (fi ++ vs.toArray ++ ca) w (fun e w' => ∃ z, e = .returned (enc z) ∧ Giv Os w w' (Ps z))) (hdN : Nat.blt d C.N = true)
    (k : ∀ z, OJ C ops Q rest ((d, enc z) :: L) (Ps z ++ R) S) : OJ C ops Q (⟨some d, .call ⟨.value x, xs.toArray, ats⟩, ty, pos, aft, none⟩ :: rest) L O S := by
  intro a w hr hp
  have hdN' : d < C.N := by simpa [Nat.blt_eq] using hdN
  unfold wpListIn
  rw [if_pos (by simp [Region.wanted])]
  refine ⟨fun _ _ => trivial, ?_⟩
  rw [Oper.semAt_eq _ _ _ (by intro c h; cases h), run_callV hr hf hx hv]
  refine ⟨fun h => (by cases h), callsIn_FR.2 ((hc w hp).mono fun e w' hx => ?_)⟩
  obtain ⟨z, rfl, hg⟩ := hx
  exact k z _ w' (hr.put hdN' _) (hp.takeGiv ht.perm hg)
end

/-! ### A slice that grows, and the one that it was -/
section
variable {C : Cx} {Q : Exit → Act → World → Prop} {L : Regs} {O S : List Fact} {ops : Array Oper} {rest : List Oper} {ty : TypeId} {pos : String} {aft : Array Edge} {d : Nat}
end

/-! ### Maps with stamps, and loops over them -/
section
variable {K V : Type} (ek : K → Value) (ev : V → Value)
def StampOk (es : List MapEntry) (c : Nat) : Prop := (∀ x ∈ es, x.born < c) ∧ (es.map (·.born)).Nodup
/-- A map of one's own, ready to be ranged over. -/
def mz (b : Nat) (l : List (K × V)) : Fact where
  fp := fun i => i = b
  P := fun w => ∃ (es : Array MapEntry) (clock : Nat), w.heap[b]? = some (.map es clock) ∧ entOk ek ev es.toList l ∧ StampOk es.toList clock
  stab := fun h ⟨es, c, h1, h2⟩ => ⟨es, c, (h b rfl).trans h1, h2⟩
/-- A map under a loop: what is still to come, and the entry at hand. -/
def mit (b r : Nat) (left : List (K × V)) (cur : Option (K × V)) : Fact where
  fp := fun i => i = b ∨ i = r
  P := fun w => b ≠ r ∧ ∃ (es : Array MapEntry) (clock since : Nat) (seen : Array Nat) (c0 : Nat), w.heap[b]? = some (.map es clock) ∧ w.heap[r]? = some (.mapIter (some b) since seen c0) ∧ (es.toList.map (fun x : MapEntry => x.born)).Nodup ∧ (∀ x ∈ es.toList, x.born < since) ∧ since ≤ c0 ∧ since ≤ clock ∧
    entOk ek ev (leftOf es seen).toList left ∧ ∀ p, cur = some p → c0 = clock ∧ ∃ e ∈ es.toList, (∃ s : Array Nat, seen = s.push e.born) ∧ e.key = ek p.1 ∧ e.val = ev p.2
  stab := fun h ⟨hne, es, c, si, se, c0, h1, h2, h3⟩ => ⟨hne, es, c, si, se, c0, (h b (.inl rfl)).trans h1, (h r (.inr rfl)).trans h2, h3⟩
end
section
variable {K V : Type} {C : Cx} {Q : Exit → Act → World → Prop} {L : Regs} {O S : List Fact} {ops : Array Oper} {rest : List Oper} {ty : TypeId} {pos : String} {aft : Array Edge} {d : Nat} {t : TypeId}
end
section
variable {K V : Type} {ek : K → Value} {ev : V → Value} {C : Cx} {Q : Exit → Act → World → Prop} {L : Regs} {O S : List Fact} {ops : Array Oper} {rest : List Oper} {ty : TypeId} {pos : String} {aft : Array Edge} {d : Nat} {dst : Option Tmp} {gu : Option (Nat × Bool)} {t kt et : TypeId} {x y z : Operand} {b : Nat} {l : List (K × V)}
class HasMz (O : List Fact) (b : Nat) (ek : outParam (K → Value)) (ev : outParam (V → Value)) (l : outParam (List (K × V))) : Prop where
  mem : mz ek ev b l ∈ O
instance (priority := 900) HasMz.tail (f : Fact) (O : List Fact) (b : Nat) (ek : K → Value) (ev : V → Value) (l : List (K × V)) [h : HasMz O b ek ev l] : HasMz (f :: O) b ek ev l := ⟨List.mem_cons_of_mem _ h.mem⟩
instance (priority := 1000) HasMz.head (O : List Fact) (b : Nat) (ek : K → Value) (ev : V → Value) (l : List (K × V)) : HasMz (mz ek ev b l :: O) b ek ev l := ⟨List.mem_cons_self ..⟩
class UpdMz (O : List Fact) (b : Nat) (ek : outParam (K → Value)) (ev : outParam (V → Value)) (l : outParam (List (K × V))) (f' : Fact) (O' : outParam (List Fact)) : Prop where
  rep : Rep O (mz ek ev b l) f' O'
instance (priority := 900) UpdMz.tail (f : Fact) (O O' : List Fact) (b : Nat) (ek : K → Value) (ev : V → Value) (l : List (K × V)) (f' : Fact) [h : UpdMz O b ek ev l f' O'] : UpdMz (f :: O) b ek ev l f' (f :: O') := ⟨.tail _ _ _ _ _ h.rep⟩
instance (priority := 1000) UpdMz.head (O : List Fact) (b : Nat) (ek : K → Value) (ev : V → Value) (l : List (K × V)) (f' : Fact) : UpdMz (mz ek ev b l :: O) b ek ev l f' (f' :: O) := ⟨.head _ _ _⟩
class HasMit (O : List Fact) (r : Nat) (ek : outParam (K → Value)) (ev : outParam (V → Value)) (b : outParam Nat) (left : outParam (List (K × V))) (cur : outParam (Option (K × V))) : Prop where
  mem : mit ek ev b r left cur ∈ O
instance (priority := 900) HasMit.tail (f : Fact) (O : List Fact) (r : Nat) (ek : K → Value) (ev : V → Value) (b : Nat) (left : List (K × V)) (cur : Option (K × V)) [h : HasMit O r ek ev b left cur] : HasMit (f :: O) r ek ev b left cur := ⟨List.mem_cons_of_mem _ h.mem⟩
instance (priority := 1000) HasMit.head (O : List Fact) (r : Nat) (ek : K → Value) (ev : V → Value) (b : Nat) (left : List (K × V)) (cur : Option (K × V)) : HasMit (mit ek ev b r left cur :: O) r ek ev b left cur := ⟨List.mem_cons_self ..⟩
end
end Go.Sx
namespace Go.Sx
open Go.RowKit

section
variable {C : Cx} {Q : Exit → Act → World → Prop} {L : Regs} {O S : List Fact} {ops : Array Oper} {rest : List Oper} {ty : TypeId} {pos : String} {aft : Array Edge} {dst : Option Tmp} {gu : Option (Nat × Bool)} {t : TypeId} {x y : Operand}
/-- An element's place in a slice that is one block: at a number that is known. -/
theorem y_ixL {s e n b N c : Nat} {i : Int} {k : IntKind} (k' : Nat) (hu : C.P.underlying s = some (.slice e)) (hs : ∀ w, (sizeOf e).run C.P w = .ok n w) (hx : val L x = some (.slice (some ⟨b, 0, none⟩) N c)) (hy : val L y = some (.int k i)) (hi : 0 ≤ i ∧ i < N) (hk : i.toNat * n = k') :
    Yi C ⟨dst, .indexAddr s x y, ty, pos, aft, gu⟩ L O S (.pointer (some ⟨b, k', none⟩)) := by
  have h := y_ix (C := C) (O := O) (S := S) (dst := dst) (ty := ty) (pos := pos) (aft := aft) (gu := gu) hu hs hx hy hi (by simp)
  have e : at_ (some (⟨b, 0, none⟩ : Addr)) (i.toNat * n) = ⟨b, k', none⟩ := by
    show (⟨b, 0, none⟩ : Addr).add (i.toNat * n) = _
    rw [addr_add, hk]; simp
  rw [e] at h
  exact h
theorem cj_condT {c : Operand} {x y : Code} {t : Bool} (hc : val L c = some (.bool t)) (ht : t = true) (h : CJ C x Q L O S) : CJ C (.cond c x y) Q L O S :=
  cj_cond hc (fun _ => h) (fun hf => by rw [ht] at hf; cases hf)
theorem cj_condF {c : Operand} {x y : Code} {t : Bool} (hc : val L c = some (.bool t)) (ht : t = false) (h : CJ C y Q L O S) : CJ C (.cond c x y) Q L O S :=
  cj_cond hc (fun hf => by rw [ht] at hf; cases hf) (fun _ => h)
/-- A slice is made, of so many zeros. -/
theorem oj_makeSliceC {e d n : Nat} {i : TypeInfo} {z : Value} (cs : List Value) (ht : C.P.underlying t = some (.slice e)) (hi : C.P.info? e = some i) (hz : i.zero = some z) (hcs : madeCells z.cells (n * z.cells.size) = cs.toArray) (hx : val L x = some (.int .i64 (n : Nat))) (hy : val L y = some (.int .i64 (n : Nat)))
    (hb : i.bytes * n ≤ 281474976710656) (h63 : n ≤ 9223372036854775807) (hcl : z.cells.size = i.size) (hdN : Nat.blt d C.N = true) (k : ∀ b, OJ C ops Q rest ((d, .slice (some ⟨b, 0, none⟩) n n) :: L) (ownB b (cellsB e cs) :: O) S) :
    OJ C ops Q (⟨some d, .makeSlice t x y, ty, pos, aft, none⟩ :: rest) L O S :=
  oj_new (by intro c h; cases h) rfl rfl hdN (cellsB e cs) (fun b => .slice (some ⟨b, 0, none⟩) n n) (fun a w hr _ => by
    have hb2 : (i.bytes : Int) * (n : Int) ≤ 281474976710656 := by
      have h0 : ((i.bytes * n : Nat) : Int) ≤ 281474976710656 := by omega
      rwa [Int.natCast_mul] at h0
    have h := run_make (P := C.P) w t e i z ht hi hz .i64 .i64 n n (by omega) (Int.le_refl _) hb2 (by omega)
    simp only [Int.toNat_natCast, ← hcl, hcs] at h
    simp only [execOp, hr.val hx, hr.val hy, Sem.run_bind, h, Result.andThen_ok]
    rfl) k
end
end Go.Sx
namespace Go.Sx
open Go.RowKit

section
variable {C : Cx} {Q : Exit → Act → World → Prop} {L : Regs} {O S : List Fact} {ops : Array Oper} {rest : List Oper} {ty : TypeId} {pos : String} {aft : Array Edge} {dst : Option Tmp} {gu : Option (Nat × Bool)} {t t' : TypeId} {x y : Operand}
/-! ### Bits -/
/-! ### Panics -/
theorem ej_then_pan {K : Act → World → Prop} {ch : List PanicEntry} (h : EJ C Q (.panic ch) L O S) : EJ C (Exit.then K Q) (.panic ch) L O S := h
theorem ej_blk_pan {id : Nat} {ch : List PanicEntry} (h : EJ C Q (.panic ch) L O S) : EJ C (Exit.inBlock id Q) (.panic ch) L O S := h
theorem ej_noGoto_pan {ch : List PanicEntry} (h : EJ C Q (.panic ch) L O S) : EJ C (Exit.noGoto Q) (.panic ch) L O S := h
/-- Out of a region that draws its order: what the temporaries hold is not known. -/
theorem ej_np_pan {K : Act → World → Prop} {ch : List PanicEntry} (h : EJ C Q (.panic ch) [] O S) : EJ C (NP C Q K) (.panic ch) L O S :=
  fun _ w _ hp a' hd hs => h a' w ⟨hd, hs, fun _ _ h => by cases h⟩ hp
theorem ej_pan {fn : Func} {R : Ending → World → Prop} {ch : List PanicEntry} (hD : C.D = []) (hR : ∀ w, Hp C.F C.w0 O S w → R (.panicked ch) w) : EJ C (bodyPost C.P fn R) (.panic ch) L O S :=
  fun _ w hr hp => ⟨hr.defers.trans hD, hR w hp⟩
theorem oj_panic {v : Value} {tt : TypeId} (hx : val L x = some (.iface tt v)) (k : EJ C Q (.panic [{ v := .iface tt v, recovered := false }]) L O S) : OJ C ops Q (⟨none, .panic x, ty, pos, aft, none⟩ :: rest) L O S := by
  intro a w hr hp
  unfold wpListIn
  rw [if_pos (by simp [Region.wanted])]
  refine ⟨fun _ _ => trivial, ?_⟩
  rw [Oper.semAt_eq _ _ _ (by intro c h; cases h)]
  have h : (execOp a.eval ⟨none, .panic x, ty, pos, aft, none⟩).run C.P w = .halt (.panic (.iface tt v)) w := by
    simp only [execOp, hr.val hx, Instr.panic, goPanic]; rfl
  rw [h]
  exact k a w hr hp
section
variable {xs : List Operand} {vs : List Value} {ats : Array TypeId} {f : FuncId}
/-- A call (of a function, or a function value) that turns several things, or panics. -/
theorem oj_callLP {X Y : Type} {x : Operand} {d : Nat} {fi ca : Array Value} (enc : X → Value) (pc : Y → List PanicEntry) (p : X → Prop) (q : Y → Prop) (Os : List Fact) (Ps : X → List Fact) (Pp : Y → List Fact) {R : List Fact} [ht : Takes O Os R]
    (hf : ∀ args w, (callFunc f args).run C.P w = .ok (.enter f args) w) (hx : val L x = some (.func (.func f) fi ca)) (hv : valsO L xs = some vs)
    (hc : ∀ w, Hp C.F C.w0 O S w → Calls C.P f (fi ++ vs.toArray ++ ca) w (fun e w' => (∃ z, p z ∧ e = .returned (enc z) ∧ Giv Os w w' (Ps z)) ∨ (∃ y, q y ∧ e = .panicked (pc y) ∧ Giv Os w w' (Pp y)))) (hdN : Nat.blt d C.N = true)
    (k2 : ∀ y, q y → EJ C Q (.panic (pc y)) L (Pp y ++ R) S) (k : ∀ z, p z → OJ C ops Q rest ((d, enc z) :: L) (Ps z ++ R) S) : OJ C ops Q (⟨some d, .call ⟨.value x, xs.toArray, ats⟩, ty, pos, aft, none⟩ :: rest) L O S := by
  intro a w hr hp
  have hdN' : d < C.N := by simpa [Nat.blt_eq] using hdN
  unfold wpListIn
  rw [if_pos (by simp [Region.wanted])]
  refine ⟨fun _ _ => trivial, ?_⟩
  rw [Oper.semAt_eq _ _ _ (by intro c h; cases h), run_callV hr hf hx hv]
  refine ⟨fun h => (by cases h), callsIn_FR.2 ((hc w hp).mono fun e w' hx => ?_)⟩
  rcases hx with ⟨z, hz, rfl, hg⟩ | ⟨y, hy, rfl, hg⟩
  · exact k z hz _ w' (hr.put hdN' _) (hp.takeGiv ht.perm hg)
  · exact k2 y hy _ w' hr (hp.takeGiv ht.perm hg)
end
theorem y_typeAssertT {tx ta : TypeId} {v : Value} {d : TypeDesc} (ht : C.P.underlying ta = some d) (hd : ∀ m, d ≠ .interface m) (hx : val L x = some (.iface ta v)) : Yi C ⟨dst, .typeAssert x tx ta true, ty, pos, aft, gu⟩ L O S (.tuple #[v, .bool true]) :=
  yi_val (by intro c h; cases h) fun a w hr _ => by
    simp only [execOp, hr.val hx, Instr.typeAssert, Sem.run_bind, run_underlying ht, Result.andThen_ok]
    cases d <;> first | exact absurd rfl (hd _) | simp
/-! ### Deferred calls that recover -/
theorem oj_defer {f : FuncId} {ca : Array Value} (hD : C.D = []) (hro : C.ro = none) (hx : val L x = some (.func (.func f) #[] ca)) (k : OJ { C with D := [⟨.fn (.func f) ca, #[]⟩] } ops Q rest L O S) :
    OJ C ops Q (⟨none, .defer ⟨.value x, #[], #[]⟩, ty, pos, aft, none⟩ :: rest) L O S := by
  intro a w hr hp
  unfold wpListIn
  rw [if_pos (by simp [Region.wanted])]
  refine ⟨fun _ _ => trivial, ?_⟩
  have h : (Oper.semAt (FR C.ro).round a.eval ⟨none, .defer ⟨.value x, #[], #[]⟩, ty, pos, aft, none⟩).run C.P w = .ok (.defer ⟨.fn (.func f) ca, #[]⟩) w := by
    rw [show (FR C.ro).round = none from hro, Oper.semAt_none]
    simp [execOp, resolve, hr.val hx, Deferred.ofValue]
  rw [h]
  refine k { a with defers := ⟨.fn (.func f) ca, #[]⟩ :: a.defers } w ⟨?_, hr.size, hr.look⟩ hp
  show _ :: a.defers = _
  rw [hr.defers, hD]
theorem enterD {P : Program} {f : FuncId} {fn : Func} {c : Code} {args : List Value} {w : World} {R : Ending → World → Prop} (F : Nat → Prop) (O S : List Fact)
    (hf : P.funcs[f]? = some fn) (hb : fn.body = some c) (hn : args.length ≤ fn.ntmps) (hp : Hp F w O S w)
    (h : CJ ⟨P, none, F, w, fn.ntmps, []⟩ c (bodyPostD P fn R) (regsOf 0 args) O S) : Calls P f args.toArray w R := by
  refine calls_of_wp_defers hf hb (wpIn_FR_none.1 (h _ w ⟨rfl, ?_, fun k v hk => ?_⟩ hp))
  · simp; omega
  · obtain ⟨_, h2⟩ := look_regsOf args 0 k v hk
    simp only [Nat.sub_zero] at h2
    have hk' : k < args.length := (List.getElem?_eq_some_iff.1 h2).1
    rw [Array.getElem?_append_left (by simpa using hk')]
    simpa using h2
theorem enterDO {P : Program} {f : FuncId} {fn : Func} {c : Code} {args : List Value} {w : World} {R : Ending → World → Prop} (Os S : List Fact)
    (hf : P.funcs[f]? = some fn) (hb : fn.body = some c) (hn : args.length ≤ fn.ntmps) (hO : ∀ f ∈ Os, f.P w ∧ ∀ b, f.fp b → b < w.heap.size) (hap : Os.Pairwise (fun f g => ∀ b, f.fp b → ¬ g.fp b))
    (hS : ∀ g ∈ S, g.P w ∧ ∀ i, g.fp i → i < w.heap.size ∧ ∀ f ∈ Os, ¬ f.fp i)
    (h : CJ ⟨P, none, FrO w Os, w, fn.ntmps, []⟩ c (bodyPostD P fn R) (regsOf 0 args) Os S) : Calls P f args.toArray w R :=
  enterD (FrO w Os) Os S hf hb hn ⟨rfl, rfl, rfl, Nat.le_refl _, fun _ hi => ⟨hi.1, rfl⟩, fun g hg => ⟨(hO g hg).1, fun b hb => ⟨(hO g hg).2 b hb, fun h => h.2 g hg hb⟩⟩, hap, fun g hg => ⟨(hS g hg).1, fun i hi => ((hS g hg).2 i hi).1, fun o ho i hi hio => ((hS g hg).2 i hi).2 o ho hio⟩⟩ h
/-- The function returns: the deferred call finds nothing to recover. -/
theorem ej_retD {fn : Func} {R : Ending → World → Prop} {g : FuncId} {ca : Array Value} (hD : C.D = [⟨.fn (.func g) ca, #[]⟩]) (hf : ∀ args w, (callFunc g args).run C.P w = .ok (.enter g args) w)
    (hc : ∀ w, Hp C.F C.w0 O S w → CallsD C.P g ca .returning w (fun e u' w' => (∃ v, e = .returned v) ∧ u' = .returning ∧ Grow w w'))
    (hres : ∀ a w, RegsOk C.N C.D L a → Hp C.F C.w0 O S w → ∃ v, (results fn a.tmps).run C.P w = .ok v w ∧ R (.returned v) w) : EJ C (bodyPostD C.P fn R) .ret L O S := fun a w hr hp => by
  show Leaves C.P fn a.tmps R a.defers .returning w
  rw [hr.defers, hD]
  refine ⟨by simp, _, _, g, ca, rfl, by simp [invoke, hf], ?_⟩
  intro c₀ cs hu
  obtain ⟨e, u', w', fr, ⟨⟨v, rfl⟩, rfl, hg⟩, h1, h2, h3⟩ := hc w hp c₀ cs hu
  exact ⟨_, _, w', fr, hres a w' hr (hp.grow hg), h1, h2, h3⟩
theorem res_CC {fn : Func} {p q : Tmp} {t u : TypeId} {ad bd : Addr} {v z : Value} (h : fn.results = #[.cell p t, .cell q u]) (hx : val L (.tmp p) = some (.pointer (some ad))) (hy : Yi C ⟨none, .load t (.tmp p), 0, "", #[], none⟩ L O S v)
    (hx2 : val L (.tmp q) = some (.pointer (some bd))) (hy2 : Yi C ⟨none, .load u (.tmp q), 0, "", #[], none⟩ L O S z) {a : Act} {w : World} (hr : RegsOk C.N C.D L a) (hp : Hp C.F C.w0 O S w) :
    (results fn a.tmps).run C.P w = .ok (.tuple #[v, z]) w := by
  have h1 := getQ_of_look hr hx
  have h2 := getQ_of_look hr hx2
  simp [results, h, h1, h2, asAddr, yi_loadVar hx hy hr hp, yi_loadVar hx2 hy2 hr hp]
/-- A deferred function that first asks what there is to recover. -/
theorem callsD_rec {P : Program} {f : FuncId} {fn : Func} {tl : Code} {args : List Value} {u u' : FrameMode} {w : World} {R : Ending → FrameMode → World → Prop} {id d d' : Nat} {o0 o1 : Oper} (v : Value) (F : Nat → Prop) (O S : List Fact)
    (hf : P.funcs[f]? = some fn) (hb : fn.body = some (.seq (.region id [o0, o1].toArray false) tl)) (hn : args.length ≤ fn.ntmps) (hd : d < fn.ntmps) (hd' : d' < fn.ntmps)
    (h0 : o0.op = .call ⟨.builtin .recover, #[], #[]⟩) (h0d : o0.dst = some d) (h0g : o0.guard = none) (h1 : o1.op = .assign (.tmp d)) (h1d : o1.dst = some d') (h1g : o1.guard = none)
    (hrec : ∀ (c₀ : Frame) (cs : List Frame), c₀.mode = u → (recoverD (c₀ :: cs) = some (v, { c₀ with mode := u' } :: cs)) ∨ (recoverD (c₀ :: cs) = none ∧ v = .nilIface ∧ u' = u))
    (hp : Hp F w O S w) (h : CJ ⟨P, none, F, w, fn.ntmps, []⟩ tl (bodyPost P fn (fun e w' => R e u' w')) ((d', v) :: (d, v) :: regsOf 0 args) O S) : CallsD P f args.toArray u w R := by
  refine callsD_of_wpS hf hb fun c₀ cs hu => wpS_seq (wpS_region ?_)
  have hr0 : RegsOk fn.ntmps [] (regsOf 0 args) { tmps := args.toArray ++ Array.replicate (fn.ntmps - args.toArray.size) undef, defers := [] } := by
    refine ⟨rfl, ?_, fun k v hk => ?_⟩
    · simp; omega
    · obtain ⟨_, h2⟩ := look_regsOf args 0 k v hk
      simp only [Nat.sub_zero] at h2
      have hk' : k < args.length := (List.getElem?_eq_some_iff.1 h2).1
      rw [Array.getElem?_append_left (by simpa using hk')]
      simpa using h2
  generalize ha : ({ tmps := args.toArray ++ Array.replicate (fn.ntmps - args.toArray.size) undef, defers := [] } : Act) = a at hr0
  have hk : ∀ cs', cs' = { c₀ with mode := u' } :: cs → tl.wpS P (bodyPostS P fn c₀ cs R) ((a.put (some d) v).put (some d') v) cs' w := by
    intro cs' hcs
    subst hcs
    refine wpS_of_wp (wp_mono (wpIn_FR_none.1 (h _ w ((hr0.put hd v).put hd' v) hp)) fun e a' w' hq => ?_)
    cases e with
    | normal => obtain ⟨h3, v', h4, h5⟩ := hq; exact ⟨h3, u', rfl, v', h4, h5⟩
    | ret => obtain ⟨h3, v', h4, h5⟩ := hq; exact ⟨h3, u', rfl, v', h4, h5⟩
    | panic ch => obtain ⟨h3, h4⟩ := hq; exact ⟨h3, u', rfl, h4⟩
    | outgrown => exact ⟨u', hq⟩
    | exit id => exact hq.elim
    | goto l => exact hq.elim
  have hw0 : Region.wanted o0 (yielded [o0, o1].toArray a.tmps) = true := by simp [Region.wanted, h0g]
  have hw1 : ∀ tm, Region.wanted o1 (yielded [o0, o1].toArray tm) = true := fun tm => by simp [Region.wanted, h1g]
  have he0 : (execOp a.eval o0).run P w = .ok .recover w := by simp [execOp, h0, resolve, invoke, builtin]
  have he1 : (execOp (a.put (some d) v).eval o1).run P w = .ok (.value v) w := by
    have h3 : (a.put (some d) v).eval (.tmp d) = v := by
      have := (hr0.put hd v).val (x := .tmp d) (v := v) (by simp [Sx.val, look])
      exact this
    simp [execOp, h1, h3]
  have hl : List.range [o0, o1].toArray.size = [0, 1] := rfl
  rw [hl]
  unfold wpOpsS
  rw [show ([o0, o1].toArray)[0]? = some o0 from rfl]
  dsimp only
  rw [if_pos hw0, he0]
  dsimp only
  rcases hrec c₀ cs hu with h3 | ⟨h3, rfl, rfl⟩
  · rw [h3]
    dsimp only
    unfold wpOpsS
    rw [show ([o0, o1].toArray)[1]? = some o1 from rfl]
    dsimp only
    rw [if_pos (hw1 _), h0d, he1]
    simp only [Oper.upon, wpOpsS, Exit.thenS, h1d]
    exact hk _ rfl
  · rw [h3]
    dsimp only
    unfold wpOpsS
    rw [show ([o0, o1].toArray)[1]? = some o1 from rfl]
    dsimp only
    rw [if_pos (hw1 _), h0d, he1]
    simp only [Oper.upon, wpOpsS, Exit.thenS, h1d]
    refine hk _ ?_
    rw [← hu]
/-- A panic that is on its way is recovered. -/
theorem rec_pan (v : Value) (c₀ : Frame) (cs : List Frame) (h : c₀.mode = .panicking [{ v, recovered := false }]) : recoverD (c₀ :: cs) = some (v, { c₀ with mode := .panicking [{ v, recovered := true }] } :: cs) := by
  simp only [recoverD, h]
theorem rec_ret (c₀ : Frame) (cs : List Frame) (h : c₀.mode = .returning) : recoverD (c₀ :: cs) = none := by simp only [recoverD, h]
end
end Go.Sx
