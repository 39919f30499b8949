/- Texts of ours, joined: 1 of them. Conditions: none. -/
import Derived.Test.YtlfbghkcfmcnlaaZf
namespace Go.Proofs.Ytlfbghkcfmcnlaa
open Go.Sx Go.RowKit
set_option maxRecDepth 20000
theorem ew_Print (a : GrA) (w : World) (hl : Rd w 4 encCl (at0 a.g12) (gramV a) ∧ ∀ c ∈ gramV a, GoodC w c) (b g c d : Nat) (hx : GoodI w (ringV b sNone g [gemV c sRound, gemV d sNone])) : Calls Try.prog 35 #[.slice (some ⟨a.g12, 0, none⟩) 2 2, .agg #[.string sRing, .slice (some ⟨b, 0, none⟩) 2 2, .slice (some ⟨g, 0, none⟩) 2 2]] w (fun e w' => e = .returned (.tuple #[.string sTx1, .int .i64 0]) ∧ Grow w w') := by
  have h := k_Print (gramV a) (at0 a.g12) 2 (ringV b sNone g [gemV c sRound, gemV d sNone]) w hl.1 hl.2 hx
  rw [ex_prn, ex_ask] at h
  exact h
theorem ew_Count (a : GrA) (w : World) (hl : Rd w 4 encCl (at0 a.g12) (gramV a) ∧ ∀ c ∈ gramV a, GoodC w c) (b g c d : Nat) (hx : GoodI w (ringV b sNone g [gemV c sRound, gemV d sNone])) : Calls Try.prog 38 #[.slice (some ⟨a.g12, 0, none⟩) 2 2, .agg #[.string sRing, .slice (some ⟨b, 0, none⟩) 2 2, .slice (some ⟨g, 0, none⟩) 2 2]] w (fun e w' => e = .returned (.tuple #[.int .i64 3, .int .i64 2, .int .i64 0]) ∧ Grow w w') := by
  have h := k_Count (gramV a) (at0 a.g12) 2 (ringV b sNone g [gemV c sRound, gemV d sNone]) w hl.1 hl.2 hx
  rw [ex_cntI, ex_cntS, ex_ask] at h
  exact h
theorem ew_Sort (a : GrA) (w : World) (hl : Rd w 4 encCl (at0 a.g12) (gramV a) ∧ ∀ c ∈ gramV a, GoodC w c) (b g c d : Nat) (hx : GoodI w (ringV b sNone g [gemV c sRound, gemV d sNone])) : Calls Try.prog 15 #[.slice (some ⟨a.g12, 0, none⟩) 2 2, .agg #[.string sRing, .slice (some ⟨b, 0, none⟩) 2 2, .slice (some ⟨g, 0, none⟩) 2 2]] w (fun e w' => ∃ y : ItemV, e = .returned (.tuple #[evI y, .int .i64 0]) ∧ Grow w w' ∧ y.pl = ringS ∧ GoodF (fun i => w.heap.size ≤ i ∧ i < w'.heap.size) w' y) := by
  have h := k_Sort (gramV a) (at0 a.g12) 2 (ringV b sNone g [gemV c sRound, gemV d sNone]) w hl.1 hl.2 hx
  rw [ex_ask, ex_srt] at h
  exact h
theorem ew_Print2 (a : GrA) (w : World) (hl : Rd w 4 encCl (at0 a.g12) (gramV a) ∧ ∀ c ∈ gramV a, GoodC w c) (y : ItemV) (hx : GoodI w y) (hy : y.pl = ringS) : Calls Try.prog 35 #[.slice (some ⟨a.g12, 0, none⟩) 2 2, evI y] w (fun e w' => e = .returned (.tuple #[.string sTx2, .int .i64 0]) ∧ Grow w w') := by
  have h := k_Print (gramV a) (at0 a.g12) 2 y w hl.1 hl.2 hx
  rw [ex_prn2 a hy, ex_ask2 a hy] at h
  exact h
theorem ew_Cov1 (a : GrA) (w : World) (hl : Rd w 4 encCl (at0 a.g12) (gramV a) ∧ ∀ c ∈ gramV a, GoodC w c) (b g c d : Nat) (hx : GoodI w (ringV b sNone g [gemV c sRound, gemV d sNone])) (b2 g2 c2 d2 : Nat) (hy : GoodI w (ringV b2 sSmall g2 [gemV c2 sOval, gemV d2 sRound])) : Calls Try.prog 13 #[.slice (some ⟨a.g12, 0, none⟩) 2 2, .agg #[.string sRing, .slice (some ⟨b, 0, none⟩) 2 2, .slice (some ⟨g, 0, none⟩) 2 2], .agg #[.string sRing, .slice (some ⟨b2, 0, none⟩) 2 2, .slice (some ⟨g2, 0, none⟩) 2 2]] w (fun e w' => e = .returned (.tuple #[.bool true, .int .i64 0]) ∧ Grow w w') := by
  have h := k_Covers (gramV a) (at0 a.g12) 2 (ringV b sNone g [gemV c sRound, gemV d sNone]) (ringV b2 sSmall g2 [gemV c2 sOval, gemV d2 sRound]) w hl.1 hl.2 hx hy
  rw [ex_cov1, ex_cov1e] at h
  exact h
theorem ew_Cov2 (a : GrA) (w : World) (hl : Rd w 4 encCl (at0 a.g12) (gramV a) ∧ ∀ c ∈ gramV a, GoodC w c) (b g c d : Nat) (hx : GoodI w (ringV b sNone g [gemV c sRound, gemV d sNone])) (b2 g2 c2 : Nat) (hy : GoodI w (ringV b2 sNone g2 [gemV c2 sNone])) : Calls Try.prog 13 #[.slice (some ⟨a.g12, 0, none⟩) 2 2, .agg #[.string sRing, .slice (some ⟨b, 0, none⟩) 2 2, .slice (some ⟨g, 0, none⟩) 2 2], .agg #[.string sRing, .slice (some ⟨b2, 0, none⟩) 2 2, .slice (some ⟨g2, 0, none⟩) 1 1]] w (fun e w' => e = .returned (.tuple #[.bool false, .int .i64 0]) ∧ Grow w w') := by
  have h := k_Covers (gramV a) (at0 a.g12) 2 (ringV b sNone g [gemV c sRound, gemV d sNone]) (ringV b2 sNone g2 [gemV c2 sNone]) w hl.1 hl.2 hx hy
  rw [ex_cov2, ex_cov2e] at h
  exact h
theorem ew_Narrow (A B : Option Addr) (b c : Nat) (w : World) (hm : Rd w 2 encMe A mEx) (hl : Rd w 1 encLs B (rEx b c)) (hgl : ∀ r ∈ rEx b c, GoodL w r) : Calls Try.prog 19 #[.slice A 2 2, .slice B 2 2] w (fun e w' => ∃ A c, e = .returned (.tuple #[.slice A (([⟨101, 102⟩, ⟨995, 1005⟩] : List Span)).length c, .int .i64 0]) ∧ Grow w w' ∧ Res w w' 2 encSp A (([⟨101, 102⟩, ⟨995, 1005⟩] : List Span))) := by
  have h := k_Narrow mEx A 2 (rEx b c) B 2 w hm hl hgl
  rw [ex_narL, ex_narE] at h
  exact h
theorem ew_Least (A At Af : Option Addr) (b c : Nat) (w : World) (hm : Rd w 2 encMe A mEx) (ht : Rd w 1 enInt At tEx) (hf : Rd w 1 encFk Af (fEx b c)) (hgf : ∀ f ∈ fEx b c, GoodK w f) : Calls Try.prog 26 #[.slice A 2 2, .slice At 2 2, .slice Af 2 2] w (fun e w' => ∃ A c, e = .returned (.tuple #[.slice A (([0, 1] : List Int)).length c, .int .i64 5, .int .i64 0]) ∧ Grow w w' ∧ Res w w' 1 enInt A (([0, 1] : List Int))) := by
  have h := k_Least mEx A 2 tEx At 2 (fEx b c) Af 2 w hm ht hf hgf
  rw [ex_lstS, ex_lstN, ex_lstE] at h
  exact h
theorem ew_Finds (A At : Option Addr) (b : Nat) (w : World) (hm : Rd w 2 encMe A mEx) (ht : Rd w 1 enInt At tEx) (hr : Rd w 2 encSp (at0 b) [⟨90, 93⟩, ⟨900, 1100⟩]) : Calls Try.prog 45 #[.slice A 2 2, .slice At 2 2, .agg #[.slice (some ⟨b, 0, none⟩) 2 2]] w (fun e w' => ∃ A c, e = .returned (.tuple #[.slice A (([0] : List Int)).length c, .int .i64 0]) ∧ Grow w w' ∧ Res w w' 1 enInt A (([0] : List Int))) := by
  have h := k_Finds mEx A 2 tEx At 2 ⟨at0 b, 2, [⟨90, 93⟩, ⟨900, 1100⟩]⟩ w hm ht hr
  rw [ex_fndL, ex_fndE] at h
  exact h
theorem ew_Agree (A At B : Option Addr) (w : World) (hm : Rd w 2 encMe A mEx) (ht : Rd w 1 enInt At tEx) (hb : Rd w 1 enInt B [104, 1010]) : Calls Try.prog 24 #[.slice A 2 2, .slice At 2 2, .slice B 2 2] w (fun e w' => e = .returned (.tuple #[.bool true, .int .i64 0]) ∧ Grow w w') := by
  have h := k_Agree mEx A 2 tEx [104, 1010] At B 2 2 w hm ht hb
  rw [ex_agrB, ex_agrE] at h
  exact h
theorem ew_Bound (A At Af B : Option Addr) (b c : Nat) (w : World) (hm : Rd w 2 encMe A mEx) (ht : Rd w 1 enInt At tEx) (hf : Rd w 1 encFk Af (fEx b c)) (hgf : ∀ f ∈ fEx b c, GoodK w f) (hb : Rd w 1 enInt B [1, 4]) : Calls Try.prog 29 #[.slice A 2 2, .slice At 2 2, .slice Af 2 2, .slice B 2 2] w (fun e w' => e = .returned (.tuple #[.int .i64 5, .int .i64 0]) ∧ Grow w w') := by
  have h := k_Bound mEx A 2 tEx At 2 (fEx b c) Af 2 [1, 4] B 2 w hm ht hf hgf hb
  rw [ex_bndN, ex_bndE] at h
  exact h

set_option maxHeartbeats 8000000 in
theorem k_works  (w : World)  : Calls Try.prog 18 #[] w (fun e w' => e = .returned (.bool true) ∧ Grow w w') := by
  refine enter_pure (args := []) [] Try.func18 rfl (by rw [Try.ntmps18]; simp) (by simp) ?_
  refine cj_seq ?_
  refine cj_regionG (gj_step (y_assign rfl) rfl rfl rfl (gj_nil ?_))
  refine ej_th (cj_seq (cj_region ?_))
  refine oj_call (X := Nat) (fun x => .agg #[.string sGem, .slice (some ⟨x, 0, none⟩) 1 1, .slice none 0 0]) (fun _ => []) (fun x => [litS x 1 enStr [sRound]]) Try.call57 rfl (fun w hp => k_gem sRound w) rfl (fun g20 => ?_)
  dsimp only [List.nil_append, List.cons_append]
  refine oj_call (X := Nat) (fun x => .agg #[.string sGem, .slice (some ⟨x, 0, none⟩) 1 1, .slice none 0 0]) (fun _ => []) (fun x => [litS x 1 enStr [sNone]]) Try.call57 rfl (fun w hp => k_gem sNone w) rfl (fun g21 => ?_)
  dsimp only [List.nil_append, List.cons_append]
  refine oj_buildSlice (cs := [.string sGem, .slice (some ⟨g20, 0, none⟩) 1 1, .slice none 0 0, .string sGem, .slice (some ⟨g21, 0, none⟩) 1 1, .slice none 0 0]) [.string ⟨#[]⟩, .slice none 0 0, .slice none 0 0, .string ⟨#[]⟩, .slice none 0 0, .slice none 0 0] Try.underlying24 Try.sizeOf26 Try.zeroValue26 rfl rfl (by kernel_rfl) (by kernel_rfl) rfl (fun b22 => ?_)
  refine oj_call (X := Nat) (fun x => .agg #[.string sRing, .slice (some ⟨x, 0, none⟩) 2 2, .slice (some ⟨b22, 0, none⟩) 2 2]) (fun _ => []) (fun x => [litS x 1 enStr [sGold, sNone]]) Try.call56 rfl (fun w hp => k_jewel sNone (some ⟨b22, 0, none⟩) 2 2 w) rfl (fun j23 => ?_)
  dsimp only [List.nil_append, List.cons_append]
  refine oj_alloc Try.zeroValue26 rfl rfl (fun b1 => ?_)
  refine oj_store rfl rfl rfl rfl Try.sizeOf26 rfl ?_
  refine oj_nil ?_
  refine ej_th (cj_seq ?_)
  refine cj_plan 8 (by kernel_rfl) (by kernel_rfl) ?_
  refine pl_y 1 rfl (y_loadN Try.isAgg26 Try.sizeOf26 rfl) rfl rfl rfl rfl (by kernel_rfl) ?_
  refine pl_w1 0 (by kernel_rfl) rfl rfl (pl_fire rfl rfl rfl (by kernel_rfl) ?_)
  refine oj_call (X := GrA × Nat × Nat) (fun z => .slice (some ⟨z.1.g12, 0, none⟩) 2 2) (fun _ => []) (fun z => [clF (fun i => z.2.1 ≤ i ∧ i < z.2.2) (at0 z.1.g12) (gramV z.1)]) Try.call58 rfl (fun w hp => k_grammar w) rfl ?_
  rintro ⟨a25, n25, m25⟩
  dsimp only [List.nil_append, List.cons_append]
  refine oj_nil ?_
  refine ej_pl (lt_y (y_loadN Try.isAgg26 Try.sizeOf26 rfl) rfl (lt_nil)) ?_
  refine pl_y 2 rfl (y_call Try.call35 rfl (fun w hp => ew_Print a25 w (hp_cl hp (fun i => n25 ≤ i ∧ i < m25) (at0 a25.g12) (gramV a25)) j23 b22 g20 g21 (ring_good (b := j23) (g := b22) (s := sNone) (parts := [gemV g20 sRound, gemV g21 sNone]) hp.rd (by decide) (hp.rdLit (b := b22) (sz := 3) (enc := encIt) [gemV g20 sRound, gemV g21 sNone] (fun _ => rfl) rfl (by unfold maxLen; simp)) (fun p hpp => by
    simp only [List.mem_cons, List.mem_nil_iff, or_false] at hpp
    rcases hpp with rfl | rfl
    · exact (gem_good (b := g20) (s := sRound) hp.rd (by decide))
    · exact (gem_good (b := g21) (s := sNone) hp.rd (by decide)))))) rfl rfl rfl rfl (by kernel_rfl) ?_
  refine pl_y 3 rfl (y_move rfl) rfl rfl rfl rfl (by kernel_rfl) ?_
  refine pl_y 4 rfl (y_extract rfl rfl) rfl rfl rfl rfl (by kernel_rfl) ?_
  refine pl_y 5 rfl (y_extract rfl rfl) rfl rfl rfl rfl (by kernel_rfl) ?_
  refine pl_y 6 rfl (y_assign rfl) rfl rfl rfl rfl (by kernel_rfl) ?_
  refine pl_y 7 rfl (y_assign rfl) rfl rfl rfl rfl (by kernel_rfl) ?_
  refine pl_end (by kernel_rfl) ?_
  refine ej_th (cj_seq ?_)
  refine cj_plan 10 (by kernel_rfl) (by kernel_rfl) ?_
  refine pl_y 1 rfl (y_loadN Try.isAgg26 Try.sizeOf26 rfl) rfl rfl rfl rfl (by kernel_rfl) ?_
  refine pl_w1 0 (by kernel_rfl) rfl rfl (pl_fire rfl rfl rfl (by kernel_rfl) ?_)
  refine oj_call (X := GrA × Nat × Nat) (fun z => .slice (some ⟨z.1.g12, 0, none⟩) 2 2) (fun _ => []) (fun z => [clF (fun i => z.2.1 ≤ i ∧ i < z.2.2) (at0 z.1.g12) (gramV z.1)]) Try.call58 rfl (fun w hp => k_grammar w) rfl ?_
  rintro ⟨a31, n31, m31⟩
  dsimp only [List.nil_append, List.cons_append]
  refine oj_nil ?_
  refine ej_pl (lt_y (y_loadN Try.isAgg26 Try.sizeOf26 rfl) rfl (lt_nil)) ?_
  refine pl_y 2 rfl (y_call Try.call38 rfl (fun w hp => ew_Count a31 w (hp_cl hp (fun i => n31 ≤ i ∧ i < m31) (at0 a31.g12) (gramV a31)) j23 b22 g20 g21 (ring_good (b := j23) (g := b22) (s := sNone) (parts := [gemV g20 sRound, gemV g21 sNone]) hp.rd (by decide) (hp.rdLit (b := b22) (sz := 3) (enc := encIt) [gemV g20 sRound, gemV g21 sNone] (fun _ => rfl) rfl (by unfold maxLen; simp)) (fun p hpp => by
    simp only [List.mem_cons, List.mem_nil_iff, or_false] at hpp
    rcases hpp with rfl | rfl
    · exact (gem_good (b := g20) (s := sRound) hp.rd (by decide))
    · exact (gem_good (b := g21) (s := sNone) hp.rd (by decide)))))) rfl rfl rfl rfl (by kernel_rfl) ?_
  refine pl_y 3 rfl (y_move rfl) rfl rfl rfl rfl (by kernel_rfl) ?_
  refine pl_y 4 rfl (y_extract rfl rfl) rfl rfl rfl rfl (by kernel_rfl) ?_
  refine pl_y 5 rfl (y_extract rfl rfl) rfl rfl rfl rfl (by kernel_rfl) ?_
  refine pl_y 6 rfl (y_extract rfl rfl) rfl rfl rfl rfl (by kernel_rfl) ?_
  refine pl_y 7 rfl (y_assign rfl) rfl rfl rfl rfl (by kernel_rfl) ?_
  refine pl_y 8 rfl (y_assign rfl) rfl rfl rfl rfl (by kernel_rfl) ?_
  refine pl_y 9 rfl (y_assign rfl) rfl rfl rfl rfl (by kernel_rfl) ?_
  refine pl_end (by kernel_rfl) ?_
  refine ej_th (cj_seq ?_)
  refine cj_plan 9 (by kernel_rfl) (by kernel_rfl) ?_
  refine pl_y 1 rfl (y_loadN Try.isAgg26 Try.sizeOf26 rfl) rfl rfl rfl rfl (by kernel_rfl) ?_
  refine pl_w2 0 6 (by kernel_rfl) rfl rfl (pl_fire rfl rfl rfl (by kernel_rfl) ?_) (pl_fire rfl rfl rfl (by kernel_rfl) ?_)
  · refine oj_call (X := GrA × Nat × Nat) (fun z => .slice (some ⟨z.1.g12, 0, none⟩) 2 2) (fun _ => []) (fun z => [clF (fun i => z.2.1 ≤ i ∧ i < z.2.2) (at0 z.1.g12) (gramV z.1)]) Try.call58 rfl (fun w hp => k_grammar w) rfl ?_
    rintro ⟨a38, n38, m38⟩
    dsimp only [List.nil_append, List.cons_append]
    refine oj_nil ?_
    refine ej_pl (lt_y (y_loadN Try.isAgg26 Try.sizeOf26 rfl) rfl (lt_nil)) ?_
    refine pl_w2 2 6 (by kernel_rfl) rfl rfl (pl_fire rfl rfl rfl (by kernel_rfl) ?_) (pl_fire rfl rfl rfl (by kernel_rfl) ?_)
    · refine oj_call (X := { z : ItemV × Nat × Nat // z.1.pl = ringS }) (fun z => .tuple #[evI z.1.1, .int .i64 0]) (fun _ => []) (fun z => [itF (fun i => z.1.2.1 ≤ i ∧ i < z.1.2.2) [z.1.1]]) Try.call15 rfl (fun w1 hp => by
        have h := ew_Sort a38 w1 (hp_cl hp (fun i => n38 ≤ i ∧ i < m38) (at0 a38.g12) (gramV a38)) j23 b22 g20 g21 (ring_good (b := j23) (g := b22) (s := sNone) (parts := [gemV g20 sRound, gemV g21 sNone]) hp.rd (by decide) (hp.rdLit (b := b22) (sz := 3) (enc := encIt) [gemV g20 sRound, gemV g21 sNone] (fun _ => rfl) rfl (by unfold maxLen; simp)) (fun p hpp => by
        simp only [List.mem_cons, List.mem_nil_iff, or_false] at hpp
        rcases hpp with rfl | rfl
        · exact (gem_good (b := g20) (s := sRound) hp.rd (by decide))
        · exact (gem_good (b := g21) (s := sNone) hp.rd (by decide))))
        exact h.mono fun e w2 ⟨y, he, hg, hy, hG⟩ => ⟨⟨(y, w1.heap.size, w2.heap.size), hy⟩, he, hg, by simp, by simp, fun f hf => by
          rw [List.mem_singleton.1 hf]
          exact ⟨fun z hz => by rw [List.mem_singleton.1 hz]; exact hG, fun i hi => ⟨hi.1, hi.2, by simp⟩⟩⟩) rfl ?_
      rintro ⟨⟨y, n1, n2⟩, hy⟩
      dsimp only [List.cons_append, List.nil_append] at hy ⊢
      refine oj_nil ?_
      refine ej_pl (lt_w (by kernel_rfl) (lt_nil)) ?_
      refine pl_y 3 rfl (y_move rfl) rfl rfl rfl rfl (by kernel_rfl) ?_
      refine pl_y 4 rfl (y_extract rfl rfl) rfl rfl rfl rfl (by kernel_rfl) ?_
      refine pl_y 5 rfl (y_extract rfl rfl) rfl rfl rfl rfl (by kernel_rfl) ?_
      refine pl_w1 6 (by kernel_rfl) rfl rfl (pl_fire rfl rfl rfl (by kernel_rfl) ?_)
      refine oj_alloc Try.zeroValue26 rfl rfl (fun b7 => ?_)
      refine oj_nil ?_
      refine ej_pl (lt_y (y_extract rfl rfl) rfl (lt_y (y_extract rfl rfl) rfl (lt_y (y_move rfl) rfl (lt_y (y_loadN Try.isAgg26 Try.sizeOf26 rfl) rfl (lt_nil))))) ?_
      refine pl_w1 7 (by kernel_rfl) rfl rfl (pl_fire rfl rfl rfl (by kernel_rfl) ?_)
      refine oj_store rfl rfl rfl rfl Try.sizeOf26 rfl ?_
      refine oj_nil ?_
      refine ej_pl (lt_y (y_extract rfl rfl) rfl (lt_w (by kernel_rfl) (lt_w (by kernel_rfl) (lt_w (by kernel_rfl) (lt_nil))))) ?_
      refine pl_y 8 rfl (y_assign rfl) rfl rfl rfl rfl (by kernel_rfl) ?_
      refine pl_end (by kernel_rfl) ?_
      refine ej_th (cj_seq ?_)
      refine cj_plan 8 (by kernel_rfl) (by kernel_rfl) ?_
      refine pl_y 1 rfl (y_loadN Try.isAgg26 Try.sizeOf26 rfl) rfl rfl rfl rfl (by kernel_rfl) ?_
      refine pl_w1 0 (by kernel_rfl) rfl rfl (pl_fire rfl rfl rfl (by kernel_rfl) ?_)
      refine oj_call (X := GrA × Nat × Nat) (fun z => .slice (some ⟨z.1.g12, 0, none⟩) 2 2) (fun _ => []) (fun z => [clF (fun i => z.2.1 ≤ i ∧ i < z.2.2) (at0 z.1.g12) (gramV z.1)]) Try.call58 rfl (fun w hp => k_grammar w) rfl ?_
      rintro ⟨a44, n44, m44⟩
      dsimp only [List.nil_append, List.cons_append]
      refine oj_nil ?_
      refine ej_pl (lt_y (y_loadN Try.isAgg26 Try.sizeOf26 rfl) rfl (lt_nil)) ?_
      refine pl_y 2 rfl (y_call Try.call35 rfl (fun w hp => ew_Print2 a44 w (hp_cl hp (fun i => n44 ≤ i ∧ i < m44) (at0 a44.g12) (gramV a44)) y (hp_it hp (fun i => n1 ≤ i ∧ i < n2) y) hy)) rfl rfl rfl rfl (by kernel_rfl) ?_
      refine pl_y 3 rfl (y_move rfl) rfl rfl rfl rfl (by kernel_rfl) ?_
      refine pl_y 4 rfl (y_extract rfl rfl) rfl rfl rfl rfl (by kernel_rfl) ?_
      refine pl_y 5 rfl (y_extract rfl rfl) rfl rfl rfl rfl (by kernel_rfl) ?_
      refine pl_y 6 rfl (y_assign rfl) rfl rfl rfl rfl (by kernel_rfl) ?_
      refine pl_y 7 rfl (y_assign rfl) rfl rfl rfl rfl (by kernel_rfl) ?_
      refine pl_end (by kernel_rfl) ?_
      refine ej_th (cj_seq (cj_seq (cj_region ?_)))
      refine oj_step (y_move rfl) rfl rfl rfl ?_
      refine oj_step (y_neq rfl rfl) rfl rfl rfl ?_
      refine oj_step (y_move rfl) rfl rfl rfl ?_
      refine oj_yes rfl rfl rfl ?_
      refine oj_step (y_move rfl) rfl rfl rfl ?_
      refine oj_yes rfl rfl rfl ?_
      refine oj_step (y_neq rfl rfl) rfl rfl rfl ?_
      refine oj_step (y_pick rfl rfl rfl) rfl rfl rfl ?_
      refine oj_step (y_move rfl) rfl rfl rfl ?_
      refine oj_yes rfl rfl rfl ?_
      refine oj_step (y_move rfl) rfl rfl rfl ?_
      refine oj_yes rfl rfl rfl ?_
      refine oj_step (y_neq rfl rfl) rfl rfl rfl ?_
      refine oj_step (y_pick rfl rfl rfl) rfl rfl rfl ?_
      refine oj_step (y_move rfl) rfl rfl rfl ?_
      refine oj_yes rfl rfl rfl ?_
      refine oj_step (y_move rfl) rfl rfl rfl ?_
      refine oj_yes rfl rfl rfl ?_
      refine oj_step (y_neq rfl rfl) rfl rfl rfl ?_
      refine oj_step (y_pick rfl rfl rfl) rfl rfl rfl ?_
      refine oj_step (y_move rfl) rfl rfl rfl ?_
      refine oj_yes rfl rfl rfl ?_
      refine oj_step (y_move rfl) rfl rfl rfl ?_
      refine oj_yes rfl rfl rfl ?_
      refine oj_step (y_neqS rfl rfl) rfl rfl rfl ?_
      refine oj_step (y_pick rfl rfl rfl) rfl rfl rfl ?_
      refine oj_step (y_move rfl) rfl rfl rfl ?_
      refine oj_yes rfl rfl rfl ?_
      refine oj_step (y_move rfl) rfl rfl rfl ?_
      refine oj_yes rfl rfl rfl ?_
      refine oj_step (y_neq rfl rfl) rfl rfl rfl ?_
      refine oj_step (y_pick rfl rfl rfl) rfl rfl rfl ?_
      refine oj_step (y_move rfl) rfl rfl rfl ?_
      refine oj_yes rfl rfl rfl ?_
      refine oj_step (y_move rfl) rfl rfl rfl ?_
      refine oj_yes rfl rfl rfl ?_
      refine oj_step (y_neq rfl rfl) rfl rfl rfl ?_
      refine oj_step (y_pick rfl rfl rfl) rfl rfl rfl ?_
      refine oj_step (y_move rfl) rfl rfl rfl ?_
      refine oj_yes rfl rfl rfl ?_
      refine oj_step (y_move rfl) rfl rfl rfl ?_
      refine oj_yes rfl rfl rfl ?_
      refine oj_step (y_neqS rfl rfl) rfl rfl rfl ?_
      refine oj_step (y_pick rfl rfl rfl) rfl rfl rfl ?_
      refine oj_nil ?_
      refine ej_th ?_
      refine cj_cond rfl (fun h78 => ?_) (fun h78 => ?_)
      · exact absurd h78 (by decide)
      · have h78b := h78
        try simp only [sxb] at h78
        refine cj_skip (ej_th (cj_seq ?_))
        refine cj_plan 12 (by kernel_rfl) (by kernel_rfl) ?_
        refine pl_y 1 rfl (y_loadN Try.isAgg26 Try.sizeOf26 rfl) rfl rfl rfl rfl (by kernel_rfl) ?_
        refine pl_w1 0 (by kernel_rfl) rfl rfl (pl_fire rfl rfl rfl (by kernel_rfl) ?_)
        refine oj_call (X := GrA × Nat × Nat) (fun z => .slice (some ⟨z.1.g12, 0, none⟩) 2 2) (fun _ => []) (fun z => [clF (fun i => z.2.1 ≤ i ∧ i < z.2.2) (at0 z.1.g12) (gramV z.1)]) Try.call58 rfl (fun w hp => k_grammar w) rfl ?_
        rintro ⟨a80, n80, m80⟩
        dsimp only [List.nil_append, List.cons_append]
        refine oj_nil ?_
        refine ej_pl (lt_y (y_loadN Try.isAgg26 Try.sizeOf26 rfl) rfl (lt_nil)) ?_
        refine pl_w1 2 (by kernel_rfl) rfl rfl (pl_fire rfl rfl rfl (by kernel_rfl) ?_)
        refine oj_call (X := Nat) (fun x => .agg #[.string sGem, .slice (some ⟨x, 0, none⟩) 1 1, .slice none 0 0]) (fun _ => []) (fun x => [litS x 1 enStr [sOval]]) Try.call57 rfl (fun w hp => k_gem sOval w) rfl (fun g82 => ?_)
        dsimp only [List.nil_append, List.cons_append]
        refine oj_nil ?_
        refine ej_pl (lt_y (y_loadN Try.isAgg26 Try.sizeOf26 rfl) rfl (lt_nil)) ?_
        refine pl_w1 3 (by kernel_rfl) rfl rfl (pl_fire rfl rfl rfl (by kernel_rfl) ?_)
        refine oj_call (X := Nat) (fun x => .agg #[.string sGem, .slice (some ⟨x, 0, none⟩) 1 1, .slice none 0 0]) (fun _ => []) (fun x => [litS x 1 enStr [sRound]]) Try.call57 rfl (fun w hp => k_gem sRound w) rfl (fun g83 => ?_)
        dsimp only [List.nil_append, List.cons_append]
        refine oj_nil ?_
        refine ej_pl (lt_y (y_loadN Try.isAgg26 Try.sizeOf26 rfl) rfl (lt_nil)) ?_
        refine pl_w1 4 (by kernel_rfl) rfl rfl (pl_fire rfl rfl rfl (by kernel_rfl) ?_)
        refine oj_buildSlice (cs := [.string sGem, .slice (some ⟨g82, 0, none⟩) 1 1, .slice none 0 0, .string sGem, .slice (some ⟨g83, 0, none⟩) 1 1, .slice none 0 0]) [.string ⟨#[]⟩, .slice none 0 0, .slice none 0 0, .string ⟨#[]⟩, .slice none 0 0, .slice none 0 0] Try.underlying24 Try.sizeOf26 Try.zeroValue26 rfl rfl (by kernel_rfl) (by kernel_rfl) rfl (fun b84 => ?_)
        refine oj_nil ?_
        refine ej_pl (lt_y (y_loadN Try.isAgg26 Try.sizeOf26 rfl) rfl (lt_nil)) ?_
        refine pl_w1 5 (by kernel_rfl) rfl rfl (pl_fire rfl rfl rfl (by kernel_rfl) ?_)
        refine oj_call (X := Nat) (fun x => .agg #[.string sRing, .slice (some ⟨x, 0, none⟩) 2 2, .slice (some ⟨b84, 0, none⟩) 2 2]) (fun _ => []) (fun x => [litS x 1 enStr [sGold, sSmall]]) Try.call56 rfl (fun w hp => k_jewel sSmall (some ⟨b84, 0, none⟩) 2 2 w) rfl (fun j85 => ?_)
        dsimp only [List.nil_append, List.cons_append]
        refine oj_nil ?_
        refine ej_pl (lt_y (y_loadN Try.isAgg26 Try.sizeOf26 rfl) rfl (lt_nil)) ?_
        refine pl_y 6 rfl (y_call Try.call13 rfl (fun w hp => ew_Cov1 a80 w (hp_cl hp (fun i => n80 ≤ i ∧ i < m80) (at0 a80.g12) (gramV a80)) j23 b22 g20 g21 (ring_good (b := j23) (g := b22) (s := sNone) (parts := [gemV g20 sRound, gemV g21 sNone]) hp.rd (by decide) (hp.rdLit (b := b22) (sz := 3) (enc := encIt) [gemV g20 sRound, gemV g21 sNone] (fun _ => rfl) rfl (by unfold maxLen; simp)) (fun p hpp => by
          simp only [List.mem_cons, List.mem_nil_iff, or_false] at hpp
          rcases hpp with rfl | rfl
          · exact (gem_good (b := g20) (s := sRound) hp.rd (by decide))
          · exact (gem_good (b := g21) (s := sNone) hp.rd (by decide)))) j85 b84 g82 g83 (ring_good (b := j85) (g := b84) (s := sSmall) (parts := [gemV g82 sOval, gemV g83 sRound]) hp.rd (by decide) (hp.rdLit (b := b84) (sz := 3) (enc := encIt) [gemV g82 sOval, gemV g83 sRound] (fun _ => rfl) rfl (by unfold maxLen; simp)) (fun p hpp => by
          simp only [List.mem_cons, List.mem_nil_iff, or_false] at hpp
          rcases hpp with rfl | rfl
          · exact (gem_good (b := g82) (s := sOval) hp.rd (by decide))
          · exact (gem_good (b := g83) (s := sRound) hp.rd (by decide)))))) rfl rfl rfl rfl (by kernel_rfl) ?_
        refine pl_y 7 rfl (y_move rfl) rfl rfl rfl rfl (by kernel_rfl) ?_
        refine pl_y 8 rfl (y_extract rfl rfl) rfl rfl rfl rfl (by kernel_rfl) ?_
        refine pl_y 9 rfl (y_extract rfl rfl) rfl rfl rfl rfl (by kernel_rfl) ?_
        refine pl_y 10 rfl (y_assign rfl) rfl rfl rfl rfl (by kernel_rfl) ?_
        refine pl_y 11 rfl (y_assign rfl) rfl rfl rfl rfl (by kernel_rfl) ?_
        refine pl_end (by kernel_rfl) ?_
        refine ej_th (cj_seq ?_)
        refine cj_plan 11 (by kernel_rfl) (by kernel_rfl) ?_
        refine pl_y 1 rfl (y_loadN Try.isAgg26 Try.sizeOf26 rfl) rfl rfl rfl rfl (by kernel_rfl) ?_
        refine pl_w1 0 (by kernel_rfl) rfl rfl (pl_fire rfl rfl rfl (by kernel_rfl) ?_)
        refine oj_call (X := GrA × Nat × Nat) (fun z => .slice (some ⟨z.1.g12, 0, none⟩) 2 2) (fun _ => []) (fun z => [clF (fun i => z.2.1 ≤ i ∧ i < z.2.2) (at0 z.1.g12) (gramV z.1)]) Try.call58 rfl (fun w hp => k_grammar w) rfl ?_
        rintro ⟨a90, n90, m90⟩
        dsimp only [List.nil_append, List.cons_append]
        refine oj_nil ?_
        refine ej_pl (lt_y (y_loadN Try.isAgg26 Try.sizeOf26 rfl) rfl (lt_nil)) ?_
        refine pl_w1 2 (by kernel_rfl) rfl rfl (pl_fire rfl rfl rfl (by kernel_rfl) ?_)
        refine oj_call (X := Nat) (fun x => .agg #[.string sGem, .slice (some ⟨x, 0, none⟩) 1 1, .slice none 0 0]) (fun _ => []) (fun x => [litS x 1 enStr [sNone]]) Try.call57 rfl (fun w hp => k_gem sNone w) rfl (fun g92 => ?_)
        dsimp only [List.nil_append, List.cons_append]
        refine oj_nil ?_
        refine ej_pl (lt_y (y_loadN Try.isAgg26 Try.sizeOf26 rfl) rfl (lt_nil)) ?_
        refine pl_w1 3 (by kernel_rfl) rfl rfl (pl_fire rfl rfl rfl (by kernel_rfl) ?_)
        refine oj_buildSlice (cs := [.string sGem, .slice (some ⟨g92, 0, none⟩) 1 1, .slice none 0 0]) [.string ⟨#[]⟩, .slice none 0 0, .slice none 0 0] Try.underlying24 Try.sizeOf26 Try.zeroValue26 rfl rfl (by kernel_rfl) (by kernel_rfl) rfl (fun b93 => ?_)
        refine oj_nil ?_
        refine ej_pl (lt_y (y_loadN Try.isAgg26 Try.sizeOf26 rfl) rfl (lt_nil)) ?_
        refine pl_w1 4 (by kernel_rfl) rfl rfl (pl_fire rfl rfl rfl (by kernel_rfl) ?_)
        refine oj_call (X := Nat) (fun x => .agg #[.string sRing, .slice (some ⟨x, 0, none⟩) 2 2, .slice (some ⟨b93, 0, none⟩) 1 1]) (fun _ => []) (fun x => [litS x 1 enStr [sGold, sNone]]) Try.call56 rfl (fun w hp => k_jewel sNone (some ⟨b93, 0, none⟩) 1 1 w) rfl (fun j94 => ?_)
        dsimp only [List.nil_append, List.cons_append]
        refine oj_nil ?_
        refine ej_pl (lt_y (y_loadN Try.isAgg26 Try.sizeOf26 rfl) rfl (lt_nil)) ?_
        refine pl_y 5 rfl (y_call Try.call13 rfl (fun w hp => ew_Cov2 a90 w (hp_cl hp (fun i => n90 ≤ i ∧ i < m90) (at0 a90.g12) (gramV a90)) j23 b22 g20 g21 (ring_good (b := j23) (g := b22) (s := sNone) (parts := [gemV g20 sRound, gemV g21 sNone]) hp.rd (by decide) (hp.rdLit (b := b22) (sz := 3) (enc := encIt) [gemV g20 sRound, gemV g21 sNone] (fun _ => rfl) rfl (by unfold maxLen; simp)) (fun p hpp => by
          simp only [List.mem_cons, List.mem_nil_iff, or_false] at hpp
          rcases hpp with rfl | rfl
          · exact (gem_good (b := g20) (s := sRound) hp.rd (by decide))
          · exact (gem_good (b := g21) (s := sNone) hp.rd (by decide)))) j94 b93 g92 (ring_good (b := j94) (g := b93) (s := sNone) (parts := [gemV g92 sNone]) hp.rd (by decide) (hp.rdLit (b := b93) (sz := 3) (enc := encIt) [gemV g92 sNone] (fun _ => rfl) rfl (by unfold maxLen; simp)) (fun p hpp => by
          simp only [List.mem_cons, List.mem_nil_iff, or_false] at hpp
          rcases hpp with rfl
          · exact (gem_good (b := g92) (s := sNone) hp.rd (by decide)))))) rfl rfl rfl rfl (by kernel_rfl) ?_
        refine pl_y 6 rfl (y_move rfl) rfl rfl rfl rfl (by kernel_rfl) ?_
        refine pl_y 7 rfl (y_extract rfl rfl) rfl rfl rfl rfl (by kernel_rfl) ?_
        refine pl_y 8 rfl (y_extract rfl rfl) rfl rfl rfl rfl (by kernel_rfl) ?_
        refine pl_y 9 rfl (y_assign rfl) rfl rfl rfl rfl (by kernel_rfl) ?_
        refine pl_y 10 rfl (y_assign rfl) rfl rfl rfl rfl (by kernel_rfl) ?_
        refine pl_end (by kernel_rfl) ?_
        refine ej_th (cj_seq (cj_region ?_))
        refine oj_call (X := Nat × Nat × Nat × Nat × Nat) (fun z => .agg #[.slice (some ⟨z.1, 0, none⟩) 2 2, .slice (some ⟨z.2.1, 0, none⟩) 2 2, .slice (some ⟨z.2.2.1, 0, none⟩) 2 2]) (fun _ => []) (fun z => [litS z.1 2 encMe mEx, litS z.2.1 1 enInt tEx, litS z.2.2.1 1 encFk (fEx z.2.2.2.1 z.2.2.2.2), litS z.2.2.2.1 2 encSp [⟨90, 93⟩, ⟨900, 1100⟩], litS z.2.2.2.2 2 encSp [⟨95, 105⟩, ⟨1016, 1030⟩]]) Try.call59 rfl (fun w hp => k_skillEx w) rfl ?_
        rintro ⟨mm, mt, mf, m1, m2⟩
        dsimp only [List.nil_append, List.cons_append]
        refine oj_alloc Try.zeroValue48 rfl rfl (fun b13 => ?_)
        refine oj_store rfl rfl rfl rfl Try.sizeOf48 rfl ?_
        refine oj_nil ?_
        refine ej_th (cj_seq (cj_region ?_))
        refine oj_step (y_fa0 fa48_0 rfl) rfl rfl rfl ?_
        refine oj_step (y_load1 Try.isAgg35 rfl rfl) rfl rfl rfl ?_
        refine oj_buildSlice (cs := [.int .i64 100, .int .i64 1000]) [.int .i64 0, .int .i64 0] Try.underlying37 Try.sizeOf3 Try.zeroValue3 rfl rfl (by kernel_rfl) (by kernel_rfl) rfl (fun b102 => ?_)
        refine oj_buildSlice (cs := [.int .i64 103, .int .i64 (-1)]) [.int .i64 0, .int .i64 0] Try.underlying37 Try.sizeOf3 Try.zeroValue3 rfl rfl (by kernel_rfl) (by kernel_rfl) rfl (fun b103 => ?_)
        refine oj_buildSlice (cs := [.slice (some ⟨b102, 0, none⟩) 2 2, .slice (some ⟨b103, 0, none⟩) 2 2]) [.slice none 0 0, .slice none 0 0] Try.underlying36 Try.sizeOf37 Try.zeroValue37 rfl rfl (by kernel_rfl) (by kernel_rfl) rfl (fun b104 => ?_)
        refine oj_callS (fun A c => .tuple #[.slice A ([⟨101, 102⟩, ⟨995, 1005⟩] : List Span).length c, .int .i64 0]) 2 encSp ([⟨101, 102⟩, ⟨995, 1005⟩] : List Span) Try.call19 rfl (fun w hp => ew_Narrow (some ⟨mm, 0, none⟩) (some ⟨b104, 0, none⟩) b102 b103 w hp.rd (hp.rdLit (b := b104) (sz := 1) (enc := encLs) (rEx b102 b103) (fun _ => rfl) rfl (by unfold maxLen; simp)) (fun r hr => by
          simp only [List.mem_cons, List.mem_nil_iff, or_false] at hr
          rcases hr with rfl | rfl
          · exact (hp.rdLit (b := b102) (sz := 1) (enc := enInt) [100, 1000] (fun _ => rfl) rfl (by unfold maxLen; simp))
          · exact (hp.rdLit (b := b103) (sz := 1) (enc := enInt) [103, -1] (fun _ => rfl) rfl (by unfold maxLen; simp)))) rfl (fun A105 c105 fp105 hfp105 => ?_)
        refine oj_step (y_move rfl) rfl rfl rfl ?_
        refine oj_step (y_extract rfl rfl) rfl rfl rfl ?_
        refine oj_step (y_extract rfl rfl) rfl rfl rfl ?_
        refine oj_step (y_assign rfl) rfl rfl rfl ?_
        refine oj_step (y_assign rfl) rfl rfl rfl ?_
        refine oj_nil ?_
        refine ej_th (cj_seq (cj_region ?_))
        refine oj_step (y_fa0 fa48_0 rfl) rfl rfl rfl ?_
        refine oj_step (y_load1 Try.isAgg35 rfl rfl) rfl rfl rfl ?_
        refine oj_step (y_fa fa48_1 rfl) rfl rfl rfl ?_
        refine oj_step (y_load1 Try.isAgg37 rfl rfl) rfl rfl rfl ?_
        refine oj_step (y_fa fa48_2 rfl) rfl rfl rfl ?_
        refine oj_step (y_load1 Try.isAgg46 rfl rfl) rfl rfl rfl ?_
        refine oj_callS (fun A c => .tuple #[.slice A ([0, 1] : List Int).length c, .int .i64 5, .int .i64 0]) 1 enInt ([0, 1] : List Int) Try.call26 rfl (fun w hp => ew_Least (some ⟨mm, 0, none⟩) (some ⟨mt, 0, none⟩) (some ⟨mf, 0, none⟩) m1 m2 w hp.rd hp.rd hp.rd (fun f hff => by
          simp only [List.mem_cons, List.mem_nil_iff, or_false] at hff
          rcases hff with rfl | rfl
          · exact hp.rd
          · exact hp.rd)) rfl (fun A115 c115 fp115 hfp115 => ?_)
        refine oj_step (y_move rfl) rfl rfl rfl ?_
        refine oj_step (y_extract rfl rfl) rfl rfl rfl ?_
        refine oj_step (y_extract rfl rfl) rfl rfl rfl ?_
        refine oj_step (y_extract rfl rfl) rfl rfl rfl ?_
        refine oj_step (y_assign rfl) rfl rfl rfl ?_
        refine oj_step (y_assign rfl) rfl rfl rfl ?_
        refine oj_step (y_assign rfl) rfl rfl rfl ?_
        refine oj_nil ?_
        refine ej_th (cj_seq (cj_seq (cj_region ?_)))
        refine oj_step (y_move rfl) rfl rfl rfl ?_
        refine oj_step (y_neq rfl rfl) rfl rfl rfl ?_
        refine oj_step (y_move rfl) rfl rfl rfl ?_
        refine oj_yes rfl rfl rfl ?_
        refine oj_step (y_move rfl) rfl rfl rfl ?_
        refine oj_yes rfl rfl rfl ?_
        refine oj_step (y_neq rfl rfl) rfl rfl rfl ?_
        refine oj_step (y_pick rfl rfl rfl) rfl rfl rfl ?_
        refine oj_step (y_move rfl) rfl rfl rfl ?_
        refine oj_yes rfl rfl rfl ?_
        refine oj_step (y_move rfl) rfl rfl rfl ?_
        refine oj_yes rfl rfl rfl ?_
        refine oj_step (y_neq rfl rfl) rfl rfl rfl ?_
        refine oj_step (y_pick rfl rfl rfl) rfl rfl rfl ?_
        refine oj_step (y_move rfl) rfl rfl rfl ?_
        refine oj_yes rfl rfl rfl ?_
        refine oj_step (y_move rfl) rfl rfl rfl ?_
        refine oj_yes rfl rfl rfl ?_
        refine oj_step (y_neq rfl rfl) rfl rfl rfl ?_
        refine oj_step (y_pick rfl rfl rfl) rfl rfl rfl ?_
        refine oj_step (y_move rfl) rfl rfl rfl ?_
        refine oj_yes rfl rfl rfl ?_
        refine oj_step (y_move rfl) rfl rfl rfl ?_
        refine oj_yes rfl rfl rfl ?_
        refine oj_step (y_not rfl) rfl rfl rfl ?_
        refine oj_step (y_pick rfl rfl rfl) rfl rfl rfl ?_
        refine oj_step (y_move rfl) rfl rfl rfl ?_
        refine oj_yes rfl rfl rfl ?_
        refine oj_step (y_move rfl) rfl rfl rfl ?_
        refine oj_step (y_pick rfl rfl rfl) rfl rfl rfl ?_
        refine oj_step (y_move rfl) rfl rfl rfl ?_
        refine oj_yes rfl rfl rfl ?_
        refine oj_step (y_move rfl) rfl rfl rfl ?_
        refine oj_yes rfl rfl rfl ?_
        refine oj_step (y_build (cs := [.int .i64 101, .int .i64 102]) st62 rfl (by kernel_rfl)) rfl rfl rfl ?_
        refine oj_yes rfl rfl rfl ?_
        refine oj_step (y_build (cs := [.int .i64 995, .int .i64 1005]) st62 rfl (by kernel_rfl)) rfl rfl rfl ?_
        refine oj_yes rfl rfl rfl ?_
        refine oj_buildSlice (cs := [.int .i64 101, .int .i64 102, .int .i64 995, .int .i64 1005]) [.int .i64 0, .int .i64 0, .int .i64 0, .int .i64 0] Try.underlying39 Try.sizeOf62 Try.zeroValue62 rfl rfl (by kernel_rfl) (by kernel_rfl) rfl (fun b144 => ?_)
        refine oj_yes rfl rfl rfl ?_
        refine oj_step (y_call Try.call21 rfl (fun w hp => k_SameSp ([⟨101, 102⟩, ⟨995, 1005⟩] : List Span) ([⟨101, 102⟩, ⟨995, 1005⟩] : List Span) A105 (some ⟨b144, 0, none⟩) c105 2 w hp.rd (hp.rdLit (b := b144) (sz := 2) (enc := encSp) ([⟨101, 102⟩, ⟨995, 1005⟩] : List Span) (fun _ => rfl) rfl (by unfold maxLen; simp)))) rfl rfl rfl ?_
        refine oj_yes rfl rfl rfl ?_
        refine oj_step (y_not rfl) rfl rfl rfl ?_
        refine oj_step (y_pick rfl rfl rfl) rfl rfl rfl ?_
        refine oj_step (y_move rfl) rfl rfl rfl ?_
        refine oj_yes rfl rfl rfl ?_
        refine oj_step (y_move rfl) rfl rfl rfl ?_
        refine oj_yes rfl rfl rfl ?_
        refine oj_buildSlice (cs := [.int .i64 0, .int .i64 1]) [.int .i64 0, .int .i64 0] Try.underlying37 Try.sizeOf3 Try.zeroValue3 rfl rfl (by kernel_rfl) (by kernel_rfl) rfl (fun b150 => ?_)
        refine oj_yes rfl rfl rfl ?_
        refine oj_step (y_call Try.call28 rfl (fun w hp => k_Same ([0, 1] : List Int) ([0, 1] : List Int) A115 (some ⟨b150, 0, none⟩) c115 2 w hp.rd (hp.rdLit (b := b150) (sz := 1) (enc := enInt) ([0, 1] : List Int) (fun _ => rfl) rfl (by unfold maxLen; simp)))) rfl rfl rfl ?_
        refine oj_yes rfl rfl rfl ?_
        refine oj_step (y_not rfl) rfl rfl rfl ?_
        refine oj_step (y_pick rfl rfl rfl) rfl rfl rfl ?_
        refine oj_step (y_move rfl) rfl rfl rfl ?_
        refine oj_yes rfl rfl rfl ?_
        refine oj_step (y_move rfl) rfl rfl rfl ?_
        refine oj_yes rfl rfl rfl ?_
        refine oj_step (y_neq rfl rfl) rfl rfl rfl ?_
        refine oj_step (y_pick rfl rfl rfl) rfl rfl rfl ?_
        refine oj_nil ?_
        refine ej_th ?_
        refine cj_cond rfl (fun h157 => ?_) (fun h157 => ?_)
        · exact absurd h157 (by decide)
        · have h157b := h157
          try simp only [sxb] at h157
          refine cj_skip (ej_th (cj_seq ?_))
          refine cj_plan 14 (by kernel_rfl) (by kernel_rfl) ?_
          refine pl_y 0 rfl (y_fa0 fa48_0 rfl) rfl rfl rfl rfl (by kernel_rfl) ?_
          refine pl_y 1 rfl (y_load1 Try.isAgg35 rfl rfl) rfl rfl rfl rfl (by kernel_rfl) ?_
          refine pl_y 2 rfl (y_fa fa48_1 rfl) rfl rfl rfl rfl (by kernel_rfl) ?_
          refine pl_y 3 rfl (y_load1 Try.isAgg37 rfl rfl) rfl rfl rfl rfl (by kernel_rfl) ?_
          refine pl_y 4 rfl (y_fa fa48_2 rfl) rfl rfl rfl rfl (by kernel_rfl) ?_
          refine pl_y 5 rfl (y_load1 Try.isAgg46 rfl rfl) rfl rfl rfl rfl (by kernel_rfl) ?_
          refine pl_y 6 rfl (y_ixR (reads_sl (xs := fEx m1 m2) (enc := encFk) (sz := 1)) Try.underlying46 Try.sizeOf80 rfl rfl ⟨by decide, show (0 : Int) < ((2 : Nat) : Int) by decide⟩) rfl rfl rfl rfl (by kernel_rfl) ?_
          refine pl_y 7 rfl (y_ldW (reads_sl) Try.isAgg80 Try.sizeOf80 rfl (rfl) (fun _ => rfl)) rfl rfl rfl rfl (by kernel_rfl) ?_
          refine pl_w1 8 (by kernel_rfl) rfl rfl (pl_fire rfl rfl rfl (by kernel_rfl) ?_)
          refine oj_callS (fun A c => .tuple #[.slice A ([0] : List Int).length c, .int .i64 0]) 1 enInt ([0] : List Int) Try.call45 rfl (fun w hp => ew_Finds (some ⟨mm, 0, none⟩) (some ⟨mt, 0, none⟩) m1 w hp.rd hp.rd hp.rd) rfl (fun A167 c167 fp167 hfp167 => ?_)
          refine oj_nil ?_
          refine ej_pl (lt_w (by kernel_rfl) (lt_y (y_ixR (reads_sl (xs := fEx m1 m2) (enc := encFk) (sz := 1)) Try.underlying46 Try.sizeOf80 rfl rfl ⟨by decide, show (0 : Int) < ((2 : Nat) : Int) by decide⟩) rfl (lt_y (y_load1 Try.isAgg46 rfl rfl) rfl (lt_y (y_fa fa48_2 rfl) rfl (lt_w (by kernel_rfl) (lt_y (y_fa fa48_1 rfl) rfl (lt_w (by kernel_rfl) (lt_y (y_fa0 fa48_0 rfl) rfl (lt_nil))))))))) ?_
          refine pl_y 9 rfl (y_move rfl) rfl rfl rfl rfl (by kernel_rfl) ?_
          refine pl_y 10 rfl (y_extract rfl rfl) rfl rfl rfl rfl (by kernel_rfl) ?_
          refine pl_y 11 rfl (y_extract rfl rfl) rfl rfl rfl rfl (by kernel_rfl) ?_
          refine pl_y 12 rfl (y_assign rfl) rfl rfl rfl rfl (by kernel_rfl) ?_
          refine pl_y 13 rfl (y_assign rfl) rfl rfl rfl rfl (by kernel_rfl) ?_
          refine pl_end (by kernel_rfl) ?_
          refine ej_th (cj_seq (cj_region ?_))
          refine oj_step (y_fa0 fa48_0 rfl) rfl rfl rfl ?_
          refine oj_step (y_load1 Try.isAgg35 rfl rfl) rfl rfl rfl ?_
          refine oj_step (y_fa fa48_1 rfl) rfl rfl rfl ?_
          refine oj_step (y_load1 Try.isAgg37 rfl rfl) rfl rfl rfl ?_
          refine oj_buildSlice (cs := [.int .i64 104, .int .i64 1010]) [.int .i64 0, .int .i64 0] Try.underlying37 Try.sizeOf3 Try.zeroValue3 rfl rfl (by kernel_rfl) (by kernel_rfl) rfl (fun b175 => ?_)
          refine oj_step (y_call Try.call24 rfl (fun w hp => ew_Agree (some ⟨mm, 0, none⟩) (some ⟨mt, 0, none⟩) (some ⟨b175, 0, none⟩) w hp.rd hp.rd (hp.rdLit (b := b175) (sz := 1) (enc := enInt) [104, 1010] (fun _ => rfl) rfl (by unfold maxLen; simp)))) rfl rfl rfl ?_
          refine oj_step (y_move rfl) rfl rfl rfl ?_
          refine oj_step (y_extract rfl rfl) rfl rfl rfl ?_
          refine oj_step (y_extract rfl rfl) rfl rfl rfl ?_
          refine oj_step (y_assign rfl) rfl rfl rfl ?_
          refine oj_step (y_assign rfl) rfl rfl rfl ?_
          refine oj_nil ?_
          refine ej_th (cj_seq (cj_region ?_))
          refine oj_step (y_fa0 fa48_0 rfl) rfl rfl rfl ?_
          refine oj_step (y_load1 Try.isAgg35 rfl rfl) rfl rfl rfl ?_
          refine oj_step (y_fa fa48_1 rfl) rfl rfl rfl ?_
          refine oj_step (y_load1 Try.isAgg37 rfl rfl) rfl rfl rfl ?_
          refine oj_step (y_fa fa48_2 rfl) rfl rfl rfl ?_
          refine oj_step (y_load1 Try.isAgg46 rfl rfl) rfl rfl rfl ?_
          refine oj_buildSlice (cs := [.int .i64 1, .int .i64 4]) [.int .i64 0, .int .i64 0] Try.underlying37 Try.sizeOf3 Try.zeroValue3 rfl rfl (by kernel_rfl) (by kernel_rfl) rfl (fun b186 => ?_)
          refine oj_step (y_call Try.call29 rfl (fun w hp => ew_Bound (some ⟨mm, 0, none⟩) (some ⟨mt, 0, none⟩) (some ⟨mf, 0, none⟩) (some ⟨b186, 0, none⟩) m1 m2 w hp.rd hp.rd hp.rd (fun f hff => by
            simp only [List.mem_cons, List.mem_nil_iff, or_false] at hff
            rcases hff with rfl | rfl
            · exact hp.rd
            · exact hp.rd) (hp.rdLit (b := b186) (sz := 1) (enc := enInt) [1, 4] (fun _ => rfl) rfl (by unfold maxLen; simp)))) rfl rfl rfl ?_
          refine oj_step (y_move rfl) rfl rfl rfl ?_
          refine oj_step (y_extract rfl rfl) rfl rfl rfl ?_
          refine oj_step (y_extract rfl rfl) rfl rfl rfl ?_
          refine oj_step (y_assign rfl) rfl rfl rfl ?_
          refine oj_step (y_assign rfl) rfl rfl rfl ?_
          refine oj_nil ?_
          refine ej_th (cj_seq (cj_region ?_))
          refine oj_step (y_move rfl) rfl rfl rfl ?_
          refine oj_step (y_eql rfl rfl) rfl rfl rfl ?_
          refine oj_step (y_move rfl) rfl rfl rfl ?_
          refine oj_yes rfl rfl rfl ?_
          refine oj_step (y_move rfl) rfl rfl rfl ?_
          refine oj_yes rfl rfl rfl ?_
          refine oj_step (y_eql rfl rfl) rfl rfl rfl ?_
          refine oj_step (y_pick rfl rfl rfl) rfl rfl rfl ?_
          refine oj_step (y_move rfl) rfl rfl rfl ?_
          refine oj_yes rfl rfl rfl ?_
          refine oj_step (y_move rfl) rfl rfl rfl ?_
          refine oj_yes rfl rfl rfl ?_
          refine oj_step (y_eql rfl rfl) rfl rfl rfl ?_
          refine oj_step (y_pick rfl rfl rfl) rfl rfl rfl ?_
          refine oj_step (y_move rfl) rfl rfl rfl ?_
          refine oj_yes rfl rfl rfl ?_
          refine oj_step (y_move rfl) rfl rfl rfl ?_
          refine oj_yes rfl rfl rfl ?_
          refine oj_buildSlice (cs := [.int .i64 0]) [.int .i64 0] Try.underlying37 Try.sizeOf3 Try.zeroValue3 rfl rfl (by kernel_rfl) (by kernel_rfl) rfl (fun b202 => ?_)
          refine oj_yes rfl rfl rfl ?_
          refine oj_step (y_call Try.call28 rfl (fun w hp => k_Same ([0] : List Int) ([0] : List Int) A167 (some ⟨b202, 0, none⟩) c167 1 w hp.rd (hp.rdLit (b := b202) (sz := 1) (enc := enInt) ([0] : List Int) (fun _ => rfl) rfl (by unfold maxLen; simp)))) rfl rfl rfl ?_
          refine oj_step (y_pick rfl rfl rfl) rfl rfl rfl ?_
          refine oj_step (y_move rfl) rfl rfl rfl ?_
          refine oj_yes rfl rfl rfl ?_
          refine oj_step (y_move rfl) rfl rfl rfl ?_
          refine oj_step (y_pick rfl rfl rfl) rfl rfl rfl ?_
          refine oj_step (y_move rfl) rfl rfl rfl ?_
          refine oj_yes rfl rfl rfl ?_
          refine oj_step (y_move rfl) rfl rfl rfl ?_
          refine oj_yes rfl rfl rfl ?_
          refine oj_step (y_eql rfl rfl) rfl rfl rfl ?_
          refine oj_step (y_pick rfl rfl rfl) rfl rfl rfl ?_
          refine oj_step (y_assign rfl) rfl rfl rfl ?_
          refine oj_nil ?_
          refine ej_th (cj_ret ?_)
          exact ej_ret1 rfl Try.results18 rfl (fun w' hp => ⟨rfl, hp.below⟩)
    · refine oj_alloc Try.zeroValue26 rfl rfl (fun b7 => ?_)
      refine oj_nil ?_
      refine ej_pl (lt_y (y_loadN Try.isAgg26 Try.sizeOf26 rfl) rfl (lt_nil)) ?_
      refine pl_w1 2 (by kernel_rfl) rfl rfl (pl_fire rfl rfl rfl (by kernel_rfl) ?_)
      refine oj_call (X := { z : ItemV × Nat × Nat // z.1.pl = ringS }) (fun z => .tuple #[evI z.1.1, .int .i64 0]) (fun _ => []) (fun z => [itF (fun i => z.1.2.1 ≤ i ∧ i < z.1.2.2) [z.1.1]]) Try.call15 rfl (fun w1 hp => by
        have h := ew_Sort a38 w1 (hp_cl hp (fun i => n38 ≤ i ∧ i < m38) (at0 a38.g12) (gramV a38)) j23 b22 g20 g21 (ring_good (b := j23) (g := b22) (s := sNone) (parts := [gemV g20 sRound, gemV g21 sNone]) hp.rd (by decide) (hp.rdLit (b := b22) (sz := 3) (enc := encIt) [gemV g20 sRound, gemV g21 sNone] (fun _ => rfl) rfl (by unfold maxLen; simp)) (fun p hpp => by
        simp only [List.mem_cons, List.mem_nil_iff, or_false] at hpp
        rcases hpp with rfl | rfl
        · exact (gem_good (b := g20) (s := sRound) hp.rd (by decide))
        · exact (gem_good (b := g21) (s := sNone) hp.rd (by decide))))
        exact h.mono fun e w2 ⟨y, he, hg, hy, hG⟩ => ⟨⟨(y, w1.heap.size, w2.heap.size), hy⟩, he, hg, by simp, by simp, fun f hf => by
          rw [List.mem_singleton.1 hf]
          exact ⟨fun z hz => by rw [List.mem_singleton.1 hz]; exact hG, fun i hi => ⟨hi.1, hi.2, by simp⟩⟩⟩) rfl ?_
      rintro ⟨⟨y, n1, n2⟩, hy⟩
      dsimp only [List.cons_append, List.nil_append] at hy ⊢
      refine oj_nil ?_
      refine ej_pl (lt_w (by kernel_rfl) (lt_nil)) ?_
      refine pl_y 3 rfl (y_move rfl) rfl rfl rfl rfl (by kernel_rfl) ?_
      refine pl_y 4 rfl (y_extract rfl rfl) rfl rfl rfl rfl (by kernel_rfl) ?_
      refine pl_y 5 rfl (y_extract rfl rfl) rfl rfl rfl rfl (by kernel_rfl) ?_
      refine pl_w1 7 (by kernel_rfl) rfl rfl (pl_fire rfl rfl rfl (by kernel_rfl) ?_)
      refine oj_store rfl rfl rfl rfl Try.sizeOf26 rfl ?_
      refine oj_nil ?_
      refine ej_pl (lt_y (y_extract rfl rfl) rfl (lt_w (by kernel_rfl) (lt_w (by kernel_rfl) (lt_w (by kernel_rfl) (lt_nil))))) ?_
      refine pl_y 8 rfl (y_assign rfl) rfl rfl rfl rfl (by kernel_rfl) ?_
      refine pl_end (by kernel_rfl) ?_
      refine ej_th (cj_seq ?_)
      refine cj_plan 8 (by kernel_rfl) (by kernel_rfl) ?_
      refine pl_y 1 rfl (y_loadN Try.isAgg26 Try.sizeOf26 rfl) rfl rfl rfl rfl (by kernel_rfl) ?_
      refine pl_w1 0 (by kernel_rfl) rfl rfl (pl_fire rfl rfl rfl (by kernel_rfl) ?_)
      refine oj_call (X := GrA × Nat × Nat) (fun z => .slice (some ⟨z.1.g12, 0, none⟩) 2 2) (fun _ => []) (fun z => [clF (fun i => z.2.1 ≤ i ∧ i < z.2.2) (at0 z.1.g12) (gramV z.1)]) Try.call58 rfl (fun w hp => k_grammar w) rfl ?_
      rintro ⟨a44, n44, m44⟩
      dsimp only [List.nil_append, List.cons_append]
      refine oj_nil ?_
      refine ej_pl (lt_y (y_loadN Try.isAgg26 Try.sizeOf26 rfl) rfl (lt_nil)) ?_
      refine pl_y 2 rfl (y_call Try.call35 rfl (fun w hp => ew_Print2 a44 w (hp_cl hp (fun i => n44 ≤ i ∧ i < m44) (at0 a44.g12) (gramV a44)) y (hp_it hp (fun i => n1 ≤ i ∧ i < n2) y) hy)) rfl rfl rfl rfl (by kernel_rfl) ?_
      refine pl_y 3 rfl (y_move rfl) rfl rfl rfl rfl (by kernel_rfl) ?_
      refine pl_y 4 rfl (y_extract rfl rfl) rfl rfl rfl rfl (by kernel_rfl) ?_
      refine pl_y 5 rfl (y_extract rfl rfl) rfl rfl rfl rfl (by kernel_rfl) ?_
      refine pl_y 6 rfl (y_assign rfl) rfl rfl rfl rfl (by kernel_rfl) ?_
      refine pl_y 7 rfl (y_assign rfl) rfl rfl rfl rfl (by kernel_rfl) ?_
      refine pl_end (by kernel_rfl) ?_
      refine ej_th (cj_seq (cj_seq (cj_region ?_)))
      refine oj_step (y_move rfl) rfl rfl rfl ?_
      refine oj_step (y_neq rfl rfl) rfl rfl rfl ?_
      refine oj_step (y_move rfl) rfl rfl rfl ?_
      refine oj_yes rfl rfl rfl ?_
      refine oj_step (y_move rfl) rfl rfl rfl ?_
      refine oj_yes rfl rfl rfl ?_
      refine oj_step (y_neq rfl rfl) rfl rfl rfl ?_
      refine oj_step (y_pick rfl rfl rfl) rfl rfl rfl ?_
      refine oj_step (y_move rfl) rfl rfl rfl ?_
      refine oj_yes rfl rfl rfl ?_
      refine oj_step (y_move rfl) rfl rfl rfl ?_
      refine oj_yes rfl rfl rfl ?_
      refine oj_step (y_neq rfl rfl) rfl rfl rfl ?_
      refine oj_step (y_pick rfl rfl rfl) rfl rfl rfl ?_
      refine oj_step (y_move rfl) rfl rfl rfl ?_
      refine oj_yes rfl rfl rfl ?_
      refine oj_step (y_move rfl) rfl rfl rfl ?_
      refine oj_yes rfl rfl rfl ?_
      refine oj_step (y_neq rfl rfl) rfl rfl rfl ?_
      refine oj_step (y_pick rfl rfl rfl) rfl rfl rfl ?_
      refine oj_step (y_move rfl) rfl rfl rfl ?_
      refine oj_yes rfl rfl rfl ?_
      refine oj_step (y_move rfl) rfl rfl rfl ?_
      refine oj_yes rfl rfl rfl ?_
      refine oj_step (y_neqS rfl rfl) rfl rfl rfl ?_
      refine oj_step (y_pick rfl rfl rfl) rfl rfl rfl ?_
      refine oj_step (y_move rfl) rfl rfl rfl ?_
      refine oj_yes rfl rfl rfl ?_
      refine oj_step (y_move rfl) rfl rfl rfl ?_
      refine oj_yes rfl rfl rfl ?_
      refine oj_step (y_neq rfl rfl) rfl rfl rfl ?_
      refine oj_step (y_pick rfl rfl rfl) rfl rfl rfl ?_
      refine oj_step (y_move rfl) rfl rfl rfl ?_
      refine oj_yes rfl rfl rfl ?_
      refine oj_step (y_move rfl) rfl rfl rfl ?_
      refine oj_yes rfl rfl rfl ?_
      refine oj_step (y_neq rfl rfl) rfl rfl rfl ?_
      refine oj_step (y_pick rfl rfl rfl) rfl rfl rfl ?_
      refine oj_step (y_move rfl) rfl rfl rfl ?_
      refine oj_yes rfl rfl rfl ?_
      refine oj_step (y_move rfl) rfl rfl rfl ?_
      refine oj_yes rfl rfl rfl ?_
      refine oj_step (y_neqS rfl rfl) rfl rfl rfl ?_
      refine oj_step (y_pick rfl rfl rfl) rfl rfl rfl ?_
      refine oj_nil ?_
      refine ej_th ?_
      refine cj_cond rfl (fun h78 => ?_) (fun h78 => ?_)
      · exact absurd h78 (by decide)
      · have h78b := h78
        try simp only [sxb] at h78
        refine cj_skip (ej_th (cj_seq ?_))
        refine cj_plan 12 (by kernel_rfl) (by kernel_rfl) ?_
        refine pl_y 1 rfl (y_loadN Try.isAgg26 Try.sizeOf26 rfl) rfl rfl rfl rfl (by kernel_rfl) ?_
        refine pl_w1 0 (by kernel_rfl) rfl rfl (pl_fire rfl rfl rfl (by kernel_rfl) ?_)
        refine oj_call (X := GrA × Nat × Nat) (fun z => .slice (some ⟨z.1.g12, 0, none⟩) 2 2) (fun _ => []) (fun z => [clF (fun i => z.2.1 ≤ i ∧ i < z.2.2) (at0 z.1.g12) (gramV z.1)]) Try.call58 rfl (fun w hp => k_grammar w) rfl ?_
        rintro ⟨a80, n80, m80⟩
        dsimp only [List.nil_append, List.cons_append]
        refine oj_nil ?_
        refine ej_pl (lt_y (y_loadN Try.isAgg26 Try.sizeOf26 rfl) rfl (lt_nil)) ?_
        refine pl_w1 2 (by kernel_rfl) rfl rfl (pl_fire rfl rfl rfl (by kernel_rfl) ?_)
        refine oj_call (X := Nat) (fun x => .agg #[.string sGem, .slice (some ⟨x, 0, none⟩) 1 1, .slice none 0 0]) (fun _ => []) (fun x => [litS x 1 enStr [sOval]]) Try.call57 rfl (fun w hp => k_gem sOval w) rfl (fun g82 => ?_)
        dsimp only [List.nil_append, List.cons_append]
        refine oj_nil ?_
        refine ej_pl (lt_y (y_loadN Try.isAgg26 Try.sizeOf26 rfl) rfl (lt_nil)) ?_
        refine pl_w1 3 (by kernel_rfl) rfl rfl (pl_fire rfl rfl rfl (by kernel_rfl) ?_)
        refine oj_call (X := Nat) (fun x => .agg #[.string sGem, .slice (some ⟨x, 0, none⟩) 1 1, .slice none 0 0]) (fun _ => []) (fun x => [litS x 1 enStr [sRound]]) Try.call57 rfl (fun w hp => k_gem sRound w) rfl (fun g83 => ?_)
        dsimp only [List.nil_append, List.cons_append]
        refine oj_nil ?_
        refine ej_pl (lt_y (y_loadN Try.isAgg26 Try.sizeOf26 rfl) rfl (lt_nil)) ?_
        refine pl_w1 4 (by kernel_rfl) rfl rfl (pl_fire rfl rfl rfl (by kernel_rfl) ?_)
        refine oj_buildSlice (cs := [.string sGem, .slice (some ⟨g82, 0, none⟩) 1 1, .slice none 0 0, .string sGem, .slice (some ⟨g83, 0, none⟩) 1 1, .slice none 0 0]) [.string ⟨#[]⟩, .slice none 0 0, .slice none 0 0, .string ⟨#[]⟩, .slice none 0 0, .slice none 0 0] Try.underlying24 Try.sizeOf26 Try.zeroValue26 rfl rfl (by kernel_rfl) (by kernel_rfl) rfl (fun b84 => ?_)
        refine oj_nil ?_
        refine ej_pl (lt_y (y_loadN Try.isAgg26 Try.sizeOf26 rfl) rfl (lt_nil)) ?_
        refine pl_w1 5 (by kernel_rfl) rfl rfl (pl_fire rfl rfl rfl (by kernel_rfl) ?_)
        refine oj_call (X := Nat) (fun x => .agg #[.string sRing, .slice (some ⟨x, 0, none⟩) 2 2, .slice (some ⟨b84, 0, none⟩) 2 2]) (fun _ => []) (fun x => [litS x 1 enStr [sGold, sSmall]]) Try.call56 rfl (fun w hp => k_jewel sSmall (some ⟨b84, 0, none⟩) 2 2 w) rfl (fun j85 => ?_)
        dsimp only [List.nil_append, List.cons_append]
        refine oj_nil ?_
        refine ej_pl (lt_y (y_loadN Try.isAgg26 Try.sizeOf26 rfl) rfl (lt_nil)) ?_
        refine pl_y 6 rfl (y_call Try.call13 rfl (fun w hp => ew_Cov1 a80 w (hp_cl hp (fun i => n80 ≤ i ∧ i < m80) (at0 a80.g12) (gramV a80)) j23 b22 g20 g21 (ring_good (b := j23) (g := b22) (s := sNone) (parts := [gemV g20 sRound, gemV g21 sNone]) hp.rd (by decide) (hp.rdLit (b := b22) (sz := 3) (enc := encIt) [gemV g20 sRound, gemV g21 sNone] (fun _ => rfl) rfl (by unfold maxLen; simp)) (fun p hpp => by
          simp only [List.mem_cons, List.mem_nil_iff, or_false] at hpp
          rcases hpp with rfl | rfl
          · exact (gem_good (b := g20) (s := sRound) hp.rd (by decide))
          · exact (gem_good (b := g21) (s := sNone) hp.rd (by decide)))) j85 b84 g82 g83 (ring_good (b := j85) (g := b84) (s := sSmall) (parts := [gemV g82 sOval, gemV g83 sRound]) hp.rd (by decide) (hp.rdLit (b := b84) (sz := 3) (enc := encIt) [gemV g82 sOval, gemV g83 sRound] (fun _ => rfl) rfl (by unfold maxLen; simp)) (fun p hpp => by
          simp only [List.mem_cons, List.mem_nil_iff, or_false] at hpp
          rcases hpp with rfl | rfl
          · exact (gem_good (b := g82) (s := sOval) hp.rd (by decide))
          · exact (gem_good (b := g83) (s := sRound) hp.rd (by decide)))))) rfl rfl rfl rfl (by kernel_rfl) ?_
        refine pl_y 7 rfl (y_move rfl) rfl rfl rfl rfl (by kernel_rfl) ?_
        refine pl_y 8 rfl (y_extract rfl rfl) rfl rfl rfl rfl (by kernel_rfl) ?_
        refine pl_y 9 rfl (y_extract rfl rfl) rfl rfl rfl rfl (by kernel_rfl) ?_
        refine pl_y 10 rfl (y_assign rfl) rfl rfl rfl rfl (by kernel_rfl) ?_
        refine pl_y 11 rfl (y_assign rfl) rfl rfl rfl rfl (by kernel_rfl) ?_
        refine pl_end (by kernel_rfl) ?_
        refine ej_th (cj_seq ?_)
        refine cj_plan 11 (by kernel_rfl) (by kernel_rfl) ?_
        refine pl_y 1 rfl (y_loadN Try.isAgg26 Try.sizeOf26 rfl) rfl rfl rfl rfl (by kernel_rfl) ?_
        refine pl_w1 0 (by kernel_rfl) rfl rfl (pl_fire rfl rfl rfl (by kernel_rfl) ?_)
        refine oj_call (X := GrA × Nat × Nat) (fun z => .slice (some ⟨z.1.g12, 0, none⟩) 2 2) (fun _ => []) (fun z => [clF (fun i => z.2.1 ≤ i ∧ i < z.2.2) (at0 z.1.g12) (gramV z.1)]) Try.call58 rfl (fun w hp => k_grammar w) rfl ?_
        rintro ⟨a90, n90, m90⟩
        dsimp only [List.nil_append, List.cons_append]
        refine oj_nil ?_
        refine ej_pl (lt_y (y_loadN Try.isAgg26 Try.sizeOf26 rfl) rfl (lt_nil)) ?_
        refine pl_w1 2 (by kernel_rfl) rfl rfl (pl_fire rfl rfl rfl (by kernel_rfl) ?_)
        refine oj_call (X := Nat) (fun x => .agg #[.string sGem, .slice (some ⟨x, 0, none⟩) 1 1, .slice none 0 0]) (fun _ => []) (fun x => [litS x 1 enStr [sNone]]) Try.call57 rfl (fun w hp => k_gem sNone w) rfl (fun g92 => ?_)
        dsimp only [List.nil_append, List.cons_append]
        refine oj_nil ?_
        refine ej_pl (lt_y (y_loadN Try.isAgg26 Try.sizeOf26 rfl) rfl (lt_nil)) ?_
        refine pl_w1 3 (by kernel_rfl) rfl rfl (pl_fire rfl rfl rfl (by kernel_rfl) ?_)
        refine oj_buildSlice (cs := [.string sGem, .slice (some ⟨g92, 0, none⟩) 1 1, .slice none 0 0]) [.string ⟨#[]⟩, .slice none 0 0, .slice none 0 0] Try.underlying24 Try.sizeOf26 Try.zeroValue26 rfl rfl (by kernel_rfl) (by kernel_rfl) rfl (fun b93 => ?_)
        refine oj_nil ?_
        refine ej_pl (lt_y (y_loadN Try.isAgg26 Try.sizeOf26 rfl) rfl (lt_nil)) ?_
        refine pl_w1 4 (by kernel_rfl) rfl rfl (pl_fire rfl rfl rfl (by kernel_rfl) ?_)
        refine oj_call (X := Nat) (fun x => .agg #[.string sRing, .slice (some ⟨x, 0, none⟩) 2 2, .slice (some ⟨b93, 0, none⟩) 1 1]) (fun _ => []) (fun x => [litS x 1 enStr [sGold, sNone]]) Try.call56 rfl (fun w hp => k_jewel sNone (some ⟨b93, 0, none⟩) 1 1 w) rfl (fun j94 => ?_)
        dsimp only [List.nil_append, List.cons_append]
        refine oj_nil ?_
        refine ej_pl (lt_y (y_loadN Try.isAgg26 Try.sizeOf26 rfl) rfl (lt_nil)) ?_
        refine pl_y 5 rfl (y_call Try.call13 rfl (fun w hp => ew_Cov2 a90 w (hp_cl hp (fun i => n90 ≤ i ∧ i < m90) (at0 a90.g12) (gramV a90)) j23 b22 g20 g21 (ring_good (b := j23) (g := b22) (s := sNone) (parts := [gemV g20 sRound, gemV g21 sNone]) hp.rd (by decide) (hp.rdLit (b := b22) (sz := 3) (enc := encIt) [gemV g20 sRound, gemV g21 sNone] (fun _ => rfl) rfl (by unfold maxLen; simp)) (fun p hpp => by
          simp only [List.mem_cons, List.mem_nil_iff, or_false] at hpp
          rcases hpp with rfl | rfl
          · exact (gem_good (b := g20) (s := sRound) hp.rd (by decide))
          · exact (gem_good (b := g21) (s := sNone) hp.rd (by decide)))) j94 b93 g92 (ring_good (b := j94) (g := b93) (s := sNone) (parts := [gemV g92 sNone]) hp.rd (by decide) (hp.rdLit (b := b93) (sz := 3) (enc := encIt) [gemV g92 sNone] (fun _ => rfl) rfl (by unfold maxLen; simp)) (fun p hpp => by
          simp only [List.mem_cons, List.mem_nil_iff, or_false] at hpp
          rcases hpp with rfl
          · exact (gem_good (b := g92) (s := sNone) hp.rd (by decide)))))) rfl rfl rfl rfl (by kernel_rfl) ?_
        refine pl_y 6 rfl (y_move rfl) rfl rfl rfl rfl (by kernel_rfl) ?_
        refine pl_y 7 rfl (y_extract rfl rfl) rfl rfl rfl rfl (by kernel_rfl) ?_
        refine pl_y 8 rfl (y_extract rfl rfl) rfl rfl rfl rfl (by kernel_rfl) ?_
        refine pl_y 9 rfl (y_assign rfl) rfl rfl rfl rfl (by kernel_rfl) ?_
        refine pl_y 10 rfl (y_assign rfl) rfl rfl rfl rfl (by kernel_rfl) ?_
        refine pl_end (by kernel_rfl) ?_
        refine ej_th (cj_seq (cj_region ?_))
        refine oj_call (X := Nat × Nat × Nat × Nat × Nat) (fun z => .agg #[.slice (some ⟨z.1, 0, none⟩) 2 2, .slice (some ⟨z.2.1, 0, none⟩) 2 2, .slice (some ⟨z.2.2.1, 0, none⟩) 2 2]) (fun _ => []) (fun z => [litS z.1 2 encMe mEx, litS z.2.1 1 enInt tEx, litS z.2.2.1 1 encFk (fEx z.2.2.2.1 z.2.2.2.2), litS z.2.2.2.1 2 encSp [⟨90, 93⟩, ⟨900, 1100⟩], litS z.2.2.2.2 2 encSp [⟨95, 105⟩, ⟨1016, 1030⟩]]) Try.call59 rfl (fun w hp => k_skillEx w) rfl ?_
        rintro ⟨mm, mt, mf, m1, m2⟩
        dsimp only [List.nil_append, List.cons_append]
        refine oj_alloc Try.zeroValue48 rfl rfl (fun b13 => ?_)
        refine oj_store rfl rfl rfl rfl Try.sizeOf48 rfl ?_
        refine oj_nil ?_
        refine ej_th (cj_seq (cj_region ?_))
        refine oj_step (y_fa0 fa48_0 rfl) rfl rfl rfl ?_
        refine oj_step (y_load1 Try.isAgg35 rfl rfl) rfl rfl rfl ?_
        refine oj_buildSlice (cs := [.int .i64 100, .int .i64 1000]) [.int .i64 0, .int .i64 0] Try.underlying37 Try.sizeOf3 Try.zeroValue3 rfl rfl (by kernel_rfl) (by kernel_rfl) rfl (fun b102 => ?_)
        refine oj_buildSlice (cs := [.int .i64 103, .int .i64 (-1)]) [.int .i64 0, .int .i64 0] Try.underlying37 Try.sizeOf3 Try.zeroValue3 rfl rfl (by kernel_rfl) (by kernel_rfl) rfl (fun b103 => ?_)
        refine oj_buildSlice (cs := [.slice (some ⟨b102, 0, none⟩) 2 2, .slice (some ⟨b103, 0, none⟩) 2 2]) [.slice none 0 0, .slice none 0 0] Try.underlying36 Try.sizeOf37 Try.zeroValue37 rfl rfl (by kernel_rfl) (by kernel_rfl) rfl (fun b104 => ?_)
        refine oj_callS (fun A c => .tuple #[.slice A ([⟨101, 102⟩, ⟨995, 1005⟩] : List Span).length c, .int .i64 0]) 2 encSp ([⟨101, 102⟩, ⟨995, 1005⟩] : List Span) Try.call19 rfl (fun w hp => ew_Narrow (some ⟨mm, 0, none⟩) (some ⟨b104, 0, none⟩) b102 b103 w hp.rd (hp.rdLit (b := b104) (sz := 1) (enc := encLs) (rEx b102 b103) (fun _ => rfl) rfl (by unfold maxLen; simp)) (fun r hr => by
          simp only [List.mem_cons, List.mem_nil_iff, or_false] at hr
          rcases hr with rfl | rfl
          · exact (hp.rdLit (b := b102) (sz := 1) (enc := enInt) [100, 1000] (fun _ => rfl) rfl (by unfold maxLen; simp))
          · exact (hp.rdLit (b := b103) (sz := 1) (enc := enInt) [103, -1] (fun _ => rfl) rfl (by unfold maxLen; simp)))) rfl (fun A105 c105 fp105 hfp105 => ?_)
        refine oj_step (y_move rfl) rfl rfl rfl ?_
        refine oj_step (y_extract rfl rfl) rfl rfl rfl ?_
        refine oj_step (y_extract rfl rfl) rfl rfl rfl ?_
        refine oj_step (y_assign rfl) rfl rfl rfl ?_
        refine oj_step (y_assign rfl) rfl rfl rfl ?_
        refine oj_nil ?_
        refine ej_th (cj_seq (cj_region ?_))
        refine oj_step (y_fa0 fa48_0 rfl) rfl rfl rfl ?_
        refine oj_step (y_load1 Try.isAgg35 rfl rfl) rfl rfl rfl ?_
        refine oj_step (y_fa fa48_1 rfl) rfl rfl rfl ?_
        refine oj_step (y_load1 Try.isAgg37 rfl rfl) rfl rfl rfl ?_
        refine oj_step (y_fa fa48_2 rfl) rfl rfl rfl ?_
        refine oj_step (y_load1 Try.isAgg46 rfl rfl) rfl rfl rfl ?_
        refine oj_callS (fun A c => .tuple #[.slice A ([0, 1] : List Int).length c, .int .i64 5, .int .i64 0]) 1 enInt ([0, 1] : List Int) Try.call26 rfl (fun w hp => ew_Least (some ⟨mm, 0, none⟩) (some ⟨mt, 0, none⟩) (some ⟨mf, 0, none⟩) m1 m2 w hp.rd hp.rd hp.rd (fun f hff => by
          simp only [List.mem_cons, List.mem_nil_iff, or_false] at hff
          rcases hff with rfl | rfl
          · exact hp.rd
          · exact hp.rd)) rfl (fun A115 c115 fp115 hfp115 => ?_)
        refine oj_step (y_move rfl) rfl rfl rfl ?_
        refine oj_step (y_extract rfl rfl) rfl rfl rfl ?_
        refine oj_step (y_extract rfl rfl) rfl rfl rfl ?_
        refine oj_step (y_extract rfl rfl) rfl rfl rfl ?_
        refine oj_step (y_assign rfl) rfl rfl rfl ?_
        refine oj_step (y_assign rfl) rfl rfl rfl ?_
        refine oj_step (y_assign rfl) rfl rfl rfl ?_
        refine oj_nil ?_
        refine ej_th (cj_seq (cj_seq (cj_region ?_)))
        refine oj_step (y_move rfl) rfl rfl rfl ?_
        refine oj_step (y_neq rfl rfl) rfl rfl rfl ?_
        refine oj_step (y_move rfl) rfl rfl rfl ?_
        refine oj_yes rfl rfl rfl ?_
        refine oj_step (y_move rfl) rfl rfl rfl ?_
        refine oj_yes rfl rfl rfl ?_
        refine oj_step (y_neq rfl rfl) rfl rfl rfl ?_
        refine oj_step (y_pick rfl rfl rfl) rfl rfl rfl ?_
        refine oj_step (y_move rfl) rfl rfl rfl ?_
        refine oj_yes rfl rfl rfl ?_
        refine oj_step (y_move rfl) rfl rfl rfl ?_
        refine oj_yes rfl rfl rfl ?_
        refine oj_step (y_neq rfl rfl) rfl rfl rfl ?_
        refine oj_step (y_pick rfl rfl rfl) rfl rfl rfl ?_
        refine oj_step (y_move rfl) rfl rfl rfl ?_
        refine oj_yes rfl rfl rfl ?_
        refine oj_step (y_move rfl) rfl rfl rfl ?_
        refine oj_yes rfl rfl rfl ?_
        refine oj_step (y_neq rfl rfl) rfl rfl rfl ?_
        refine oj_step (y_pick rfl rfl rfl) rfl rfl rfl ?_
        refine oj_step (y_move rfl) rfl rfl rfl ?_
        refine oj_yes rfl rfl rfl ?_
        refine oj_step (y_move rfl) rfl rfl rfl ?_
        refine oj_yes rfl rfl rfl ?_
        refine oj_step (y_not rfl) rfl rfl rfl ?_
        refine oj_step (y_pick rfl rfl rfl) rfl rfl rfl ?_
        refine oj_step (y_move rfl) rfl rfl rfl ?_
        refine oj_yes rfl rfl rfl ?_
        refine oj_step (y_move rfl) rfl rfl rfl ?_
        refine oj_step (y_pick rfl rfl rfl) rfl rfl rfl ?_
        refine oj_step (y_move rfl) rfl rfl rfl ?_
        refine oj_yes rfl rfl rfl ?_
        refine oj_step (y_move rfl) rfl rfl rfl ?_
        refine oj_yes rfl rfl rfl ?_
        refine oj_step (y_build (cs := [.int .i64 101, .int .i64 102]) st62 rfl (by kernel_rfl)) rfl rfl rfl ?_
        refine oj_yes rfl rfl rfl ?_
        refine oj_step (y_build (cs := [.int .i64 995, .int .i64 1005]) st62 rfl (by kernel_rfl)) rfl rfl rfl ?_
        refine oj_yes rfl rfl rfl ?_
        refine oj_buildSlice (cs := [.int .i64 101, .int .i64 102, .int .i64 995, .int .i64 1005]) [.int .i64 0, .int .i64 0, .int .i64 0, .int .i64 0] Try.underlying39 Try.sizeOf62 Try.zeroValue62 rfl rfl (by kernel_rfl) (by kernel_rfl) rfl (fun b144 => ?_)
        refine oj_yes rfl rfl rfl ?_
        refine oj_step (y_call Try.call21 rfl (fun w hp => k_SameSp ([⟨101, 102⟩, ⟨995, 1005⟩] : List Span) ([⟨101, 102⟩, ⟨995, 1005⟩] : List Span) A105 (some ⟨b144, 0, none⟩) c105 2 w hp.rd (hp.rdLit (b := b144) (sz := 2) (enc := encSp) ([⟨101, 102⟩, ⟨995, 1005⟩] : List Span) (fun _ => rfl) rfl (by unfold maxLen; simp)))) rfl rfl rfl ?_
        refine oj_yes rfl rfl rfl ?_
        refine oj_step (y_not rfl) rfl rfl rfl ?_
        refine oj_step (y_pick rfl rfl rfl) rfl rfl rfl ?_
        refine oj_step (y_move rfl) rfl rfl rfl ?_
        refine oj_yes rfl rfl rfl ?_
        refine oj_step (y_move rfl) rfl rfl rfl ?_
        refine oj_yes rfl rfl rfl ?_
        refine oj_buildSlice (cs := [.int .i64 0, .int .i64 1]) [.int .i64 0, .int .i64 0] Try.underlying37 Try.sizeOf3 Try.zeroValue3 rfl rfl (by kernel_rfl) (by kernel_rfl) rfl (fun b150 => ?_)
        refine oj_yes rfl rfl rfl ?_
        refine oj_step (y_call Try.call28 rfl (fun w hp => k_Same ([0, 1] : List Int) ([0, 1] : List Int) A115 (some ⟨b150, 0, none⟩) c115 2 w hp.rd (hp.rdLit (b := b150) (sz := 1) (enc := enInt) ([0, 1] : List Int) (fun _ => rfl) rfl (by unfold maxLen; simp)))) rfl rfl rfl ?_
        refine oj_yes rfl rfl rfl ?_
        refine oj_step (y_not rfl) rfl rfl rfl ?_
        refine oj_step (y_pick rfl rfl rfl) rfl rfl rfl ?_
        refine oj_step (y_move rfl) rfl rfl rfl ?_
        refine oj_yes rfl rfl rfl ?_
        refine oj_step (y_move rfl) rfl rfl rfl ?_
        refine oj_yes rfl rfl rfl ?_
        refine oj_step (y_neq rfl rfl) rfl rfl rfl ?_
        refine oj_step (y_pick rfl rfl rfl) rfl rfl rfl ?_
        refine oj_nil ?_
        refine ej_th ?_
        refine cj_cond rfl (fun h157 => ?_) (fun h157 => ?_)
        · exact absurd h157 (by decide)
        · have h157b := h157
          try simp only [sxb] at h157
          refine cj_skip (ej_th (cj_seq ?_))
          refine cj_plan 14 (by kernel_rfl) (by kernel_rfl) ?_
          refine pl_y 0 rfl (y_fa0 fa48_0 rfl) rfl rfl rfl rfl (by kernel_rfl) ?_
          refine pl_y 1 rfl (y_load1 Try.isAgg35 rfl rfl) rfl rfl rfl rfl (by kernel_rfl) ?_
          refine pl_y 2 rfl (y_fa fa48_1 rfl) rfl rfl rfl rfl (by kernel_rfl) ?_
          refine pl_y 3 rfl (y_load1 Try.isAgg37 rfl rfl) rfl rfl rfl rfl (by kernel_rfl) ?_
          refine pl_y 4 rfl (y_fa fa48_2 rfl) rfl rfl rfl rfl (by kernel_rfl) ?_
          refine pl_y 5 rfl (y_load1 Try.isAgg46 rfl rfl) rfl rfl rfl rfl (by kernel_rfl) ?_
          refine pl_y 6 rfl (y_ixR (reads_sl (xs := fEx m1 m2) (enc := encFk) (sz := 1)) Try.underlying46 Try.sizeOf80 rfl rfl ⟨by decide, show (0 : Int) < ((2 : Nat) : Int) by decide⟩) rfl rfl rfl rfl (by kernel_rfl) ?_
          refine pl_y 7 rfl (y_ldW (reads_sl) Try.isAgg80 Try.sizeOf80 rfl (rfl) (fun _ => rfl)) rfl rfl rfl rfl (by kernel_rfl) ?_
          refine pl_w1 8 (by kernel_rfl) rfl rfl (pl_fire rfl rfl rfl (by kernel_rfl) ?_)
          refine oj_callS (fun A c => .tuple #[.slice A ([0] : List Int).length c, .int .i64 0]) 1 enInt ([0] : List Int) Try.call45 rfl (fun w hp => ew_Finds (some ⟨mm, 0, none⟩) (some ⟨mt, 0, none⟩) m1 w hp.rd hp.rd hp.rd) rfl (fun A167 c167 fp167 hfp167 => ?_)
          refine oj_nil ?_
          refine ej_pl (lt_w (by kernel_rfl) (lt_y (y_ixR (reads_sl (xs := fEx m1 m2) (enc := encFk) (sz := 1)) Try.underlying46 Try.sizeOf80 rfl rfl ⟨by decide, show (0 : Int) < ((2 : Nat) : Int) by decide⟩) rfl (lt_y (y_load1 Try.isAgg46 rfl rfl) rfl (lt_y (y_fa fa48_2 rfl) rfl (lt_w (by kernel_rfl) (lt_y (y_fa fa48_1 rfl) rfl (lt_w (by kernel_rfl) (lt_y (y_fa0 fa48_0 rfl) rfl (lt_nil))))))))) ?_
          refine pl_y 9 rfl (y_move rfl) rfl rfl rfl rfl (by kernel_rfl) ?_
          refine pl_y 10 rfl (y_extract rfl rfl) rfl rfl rfl rfl (by kernel_rfl) ?_
          refine pl_y 11 rfl (y_extract rfl rfl) rfl rfl rfl rfl (by kernel_rfl) ?_
          refine pl_y 12 rfl (y_assign rfl) rfl rfl rfl rfl (by kernel_rfl) ?_
          refine pl_y 13 rfl (y_assign rfl) rfl rfl rfl rfl (by kernel_rfl) ?_
          refine pl_end (by kernel_rfl) ?_
          refine ej_th (cj_seq (cj_region ?_))
          refine oj_step (y_fa0 fa48_0 rfl) rfl rfl rfl ?_
          refine oj_step (y_load1 Try.isAgg35 rfl rfl) rfl rfl rfl ?_
          refine oj_step (y_fa fa48_1 rfl) rfl rfl rfl ?_
          refine oj_step (y_load1 Try.isAgg37 rfl rfl) rfl rfl rfl ?_
          refine oj_buildSlice (cs := [.int .i64 104, .int .i64 1010]) [.int .i64 0, .int .i64 0] Try.underlying37 Try.sizeOf3 Try.zeroValue3 rfl rfl (by kernel_rfl) (by kernel_rfl) rfl (fun b175 => ?_)
          refine oj_step (y_call Try.call24 rfl (fun w hp => ew_Agree (some ⟨mm, 0, none⟩) (some ⟨mt, 0, none⟩) (some ⟨b175, 0, none⟩) w hp.rd hp.rd (hp.rdLit (b := b175) (sz := 1) (enc := enInt) [104, 1010] (fun _ => rfl) rfl (by unfold maxLen; simp)))) rfl rfl rfl ?_
          refine oj_step (y_move rfl) rfl rfl rfl ?_
          refine oj_step (y_extract rfl rfl) rfl rfl rfl ?_
          refine oj_step (y_extract rfl rfl) rfl rfl rfl ?_
          refine oj_step (y_assign rfl) rfl rfl rfl ?_
          refine oj_step (y_assign rfl) rfl rfl rfl ?_
          refine oj_nil ?_
          refine ej_th (cj_seq (cj_region ?_))
          refine oj_step (y_fa0 fa48_0 rfl) rfl rfl rfl ?_
          refine oj_step (y_load1 Try.isAgg35 rfl rfl) rfl rfl rfl ?_
          refine oj_step (y_fa fa48_1 rfl) rfl rfl rfl ?_
          refine oj_step (y_load1 Try.isAgg37 rfl rfl) rfl rfl rfl ?_
          refine oj_step (y_fa fa48_2 rfl) rfl rfl rfl ?_
          refine oj_step (y_load1 Try.isAgg46 rfl rfl) rfl rfl rfl ?_
          refine oj_buildSlice (cs := [.int .i64 1, .int .i64 4]) [.int .i64 0, .int .i64 0] Try.underlying37 Try.sizeOf3 Try.zeroValue3 rfl rfl (by kernel_rfl) (by kernel_rfl) rfl (fun b186 => ?_)
          refine oj_step (y_call Try.call29 rfl (fun w hp => ew_Bound (some ⟨mm, 0, none⟩) (some ⟨mt, 0, none⟩) (some ⟨mf, 0, none⟩) (some ⟨b186, 0, none⟩) m1 m2 w hp.rd hp.rd hp.rd (fun f hff => by
            simp only [List.mem_cons, List.mem_nil_iff, or_false] at hff
            rcases hff with rfl | rfl
            · exact hp.rd
            · exact hp.rd) (hp.rdLit (b := b186) (sz := 1) (enc := enInt) [1, 4] (fun _ => rfl) rfl (by unfold maxLen; simp)))) rfl rfl rfl ?_
          refine oj_step (y_move rfl) rfl rfl rfl ?_
          refine oj_step (y_extract rfl rfl) rfl rfl rfl ?_
          refine oj_step (y_extract rfl rfl) rfl rfl rfl ?_
          refine oj_step (y_assign rfl) rfl rfl rfl ?_
          refine oj_step (y_assign rfl) rfl rfl rfl ?_
          refine oj_nil ?_
          refine ej_th (cj_seq (cj_region ?_))
          refine oj_step (y_move rfl) rfl rfl rfl ?_
          refine oj_step (y_eql rfl rfl) rfl rfl rfl ?_
          refine oj_step (y_move rfl) rfl rfl rfl ?_
          refine oj_yes rfl rfl rfl ?_
          refine oj_step (y_move rfl) rfl rfl rfl ?_
          refine oj_yes rfl rfl rfl ?_
          refine oj_step (y_eql rfl rfl) rfl rfl rfl ?_
          refine oj_step (y_pick rfl rfl rfl) rfl rfl rfl ?_
          refine oj_step (y_move rfl) rfl rfl rfl ?_
          refine oj_yes rfl rfl rfl ?_
          refine oj_step (y_move rfl) rfl rfl rfl ?_
          refine oj_yes rfl rfl rfl ?_
          refine oj_step (y_eql rfl rfl) rfl rfl rfl ?_
          refine oj_step (y_pick rfl rfl rfl) rfl rfl rfl ?_
          refine oj_step (y_move rfl) rfl rfl rfl ?_
          refine oj_yes rfl rfl rfl ?_
          refine oj_step (y_move rfl) rfl rfl rfl ?_
          refine oj_yes rfl rfl rfl ?_
          refine oj_buildSlice (cs := [.int .i64 0]) [.int .i64 0] Try.underlying37 Try.sizeOf3 Try.zeroValue3 rfl rfl (by kernel_rfl) (by kernel_rfl) rfl (fun b202 => ?_)
          refine oj_yes rfl rfl rfl ?_
          refine oj_step (y_call Try.call28 rfl (fun w hp => k_Same ([0] : List Int) ([0] : List Int) A167 (some ⟨b202, 0, none⟩) c167 1 w hp.rd (hp.rdLit (b := b202) (sz := 1) (enc := enInt) ([0] : List Int) (fun _ => rfl) rfl (by unfold maxLen; simp)))) rfl rfl rfl ?_
          refine oj_step (y_pick rfl rfl rfl) rfl rfl rfl ?_
          refine oj_step (y_move rfl) rfl rfl rfl ?_
          refine oj_yes rfl rfl rfl ?_
          refine oj_step (y_move rfl) rfl rfl rfl ?_
          refine oj_step (y_pick rfl rfl rfl) rfl rfl rfl ?_
          refine oj_step (y_move rfl) rfl rfl rfl ?_
          refine oj_yes rfl rfl rfl ?_
          refine oj_step (y_move rfl) rfl rfl rfl ?_
          refine oj_yes rfl rfl rfl ?_
          refine oj_step (y_eql rfl rfl) rfl rfl rfl ?_
          refine oj_step (y_pick rfl rfl rfl) rfl rfl rfl ?_
          refine oj_step (y_assign rfl) rfl rfl rfl ?_
          refine oj_nil ?_
          refine ej_th (cj_ret ?_)
          exact ej_ret1 rfl Try.results18 rfl (fun w' hp => ⟨rfl, hp.below⟩)
  · refine oj_alloc Try.zeroValue26 rfl rfl (fun b7 => ?_)
    refine oj_nil ?_
    refine ej_pl (lt_y (y_loadN Try.isAgg26 Try.sizeOf26 rfl) rfl (lt_nil)) ?_
    refine pl_w1 0 (by kernel_rfl) rfl rfl (pl_fire rfl rfl rfl (by kernel_rfl) ?_)
    refine oj_call (X := GrA × Nat × Nat) (fun z => .slice (some ⟨z.1.g12, 0, none⟩) 2 2) (fun _ => []) (fun z => [clF (fun i => z.2.1 ≤ i ∧ i < z.2.2) (at0 z.1.g12) (gramV z.1)]) Try.call58 rfl (fun w hp => k_grammar w) rfl ?_
    rintro ⟨a38, n38, m38⟩
    dsimp only [List.nil_append, List.cons_append]
    refine oj_nil ?_
    refine ej_pl (lt_y (y_loadN Try.isAgg26 Try.sizeOf26 rfl) rfl (lt_nil)) ?_
    refine pl_w1 2 (by kernel_rfl) rfl rfl (pl_fire rfl rfl rfl (by kernel_rfl) ?_)
    refine oj_call (X := { z : ItemV × Nat × Nat // z.1.pl = ringS }) (fun z => .tuple #[evI z.1.1, .int .i64 0]) (fun _ => []) (fun z => [itF (fun i => z.1.2.1 ≤ i ∧ i < z.1.2.2) [z.1.1]]) Try.call15 rfl (fun w1 hp => by
      have h := ew_Sort a38 w1 (hp_cl hp (fun i => n38 ≤ i ∧ i < m38) (at0 a38.g12) (gramV a38)) j23 b22 g20 g21 (ring_good (b := j23) (g := b22) (s := sNone) (parts := [gemV g20 sRound, gemV g21 sNone]) hp.rd (by decide) (hp.rdLit (b := b22) (sz := 3) (enc := encIt) [gemV g20 sRound, gemV g21 sNone] (fun _ => rfl) rfl (by unfold maxLen; simp)) (fun p hpp => by
      simp only [List.mem_cons, List.mem_nil_iff, or_false] at hpp
      rcases hpp with rfl | rfl
      · exact (gem_good (b := g20) (s := sRound) hp.rd (by decide))
      · exact (gem_good (b := g21) (s := sNone) hp.rd (by decide))))
      exact h.mono fun e w2 ⟨y, he, hg, hy, hG⟩ => ⟨⟨(y, w1.heap.size, w2.heap.size), hy⟩, he, hg, by simp, by simp, fun f hf => by
        rw [List.mem_singleton.1 hf]
        exact ⟨fun z hz => by rw [List.mem_singleton.1 hz]; exact hG, fun i hi => ⟨hi.1, hi.2, by simp⟩⟩⟩) rfl ?_
    rintro ⟨⟨y, n1, n2⟩, hy⟩
    dsimp only [List.cons_append, List.nil_append] at hy ⊢
    refine oj_nil ?_
    refine ej_pl (lt_w (by kernel_rfl) (lt_nil)) ?_
    refine pl_y 3 rfl (y_move rfl) rfl rfl rfl rfl (by kernel_rfl) ?_
    refine pl_y 4 rfl (y_extract rfl rfl) rfl rfl rfl rfl (by kernel_rfl) ?_
    refine pl_y 5 rfl (y_extract rfl rfl) rfl rfl rfl rfl (by kernel_rfl) ?_
    refine pl_w1 7 (by kernel_rfl) rfl rfl (pl_fire rfl rfl rfl (by kernel_rfl) ?_)
    refine oj_store rfl rfl rfl rfl Try.sizeOf26 rfl ?_
    refine oj_nil ?_
    refine ej_pl (lt_y (y_extract rfl rfl) rfl (lt_w (by kernel_rfl) (lt_w (by kernel_rfl) (lt_w (by kernel_rfl) (lt_nil))))) ?_
    refine pl_y 8 rfl (y_assign rfl) rfl rfl rfl rfl (by kernel_rfl) ?_
    refine pl_end (by kernel_rfl) ?_
    refine ej_th (cj_seq ?_)
    refine cj_plan 8 (by kernel_rfl) (by kernel_rfl) ?_
    refine pl_y 1 rfl (y_loadN Try.isAgg26 Try.sizeOf26 rfl) rfl rfl rfl rfl (by kernel_rfl) ?_
    refine pl_w1 0 (by kernel_rfl) rfl rfl (pl_fire rfl rfl rfl (by kernel_rfl) ?_)
    refine oj_call (X := GrA × Nat × Nat) (fun z => .slice (some ⟨z.1.g12, 0, none⟩) 2 2) (fun _ => []) (fun z => [clF (fun i => z.2.1 ≤ i ∧ i < z.2.2) (at0 z.1.g12) (gramV z.1)]) Try.call58 rfl (fun w hp => k_grammar w) rfl ?_
    rintro ⟨a44, n44, m44⟩
    dsimp only [List.nil_append, List.cons_append]
    refine oj_nil ?_
    refine ej_pl (lt_y (y_loadN Try.isAgg26 Try.sizeOf26 rfl) rfl (lt_nil)) ?_
    refine pl_y 2 rfl (y_call Try.call35 rfl (fun w hp => ew_Print2 a44 w (hp_cl hp (fun i => n44 ≤ i ∧ i < m44) (at0 a44.g12) (gramV a44)) y (hp_it hp (fun i => n1 ≤ i ∧ i < n2) y) hy)) rfl rfl rfl rfl (by kernel_rfl) ?_
    refine pl_y 3 rfl (y_move rfl) rfl rfl rfl rfl (by kernel_rfl) ?_
    refine pl_y 4 rfl (y_extract rfl rfl) rfl rfl rfl rfl (by kernel_rfl) ?_
    refine pl_y 5 rfl (y_extract rfl rfl) rfl rfl rfl rfl (by kernel_rfl) ?_
    refine pl_y 6 rfl (y_assign rfl) rfl rfl rfl rfl (by kernel_rfl) ?_
    refine pl_y 7 rfl (y_assign rfl) rfl rfl rfl rfl (by kernel_rfl) ?_
    refine pl_end (by kernel_rfl) ?_
    refine ej_th (cj_seq (cj_seq (cj_region ?_)))
    refine oj_step (y_move rfl) rfl rfl rfl ?_
    refine oj_step (y_neq rfl rfl) rfl rfl rfl ?_
    refine oj_step (y_move rfl) rfl rfl rfl ?_
    refine oj_yes rfl rfl rfl ?_
    refine oj_step (y_move rfl) rfl rfl rfl ?_
    refine oj_yes rfl rfl rfl ?_
    refine oj_step (y_neq rfl rfl) rfl rfl rfl ?_
    refine oj_step (y_pick rfl rfl rfl) rfl rfl rfl ?_
    refine oj_step (y_move rfl) rfl rfl rfl ?_
    refine oj_yes rfl rfl rfl ?_
    refine oj_step (y_move rfl) rfl rfl rfl ?_
    refine oj_yes rfl rfl rfl ?_
    refine oj_step (y_neq rfl rfl) rfl rfl rfl ?_
    refine oj_step (y_pick rfl rfl rfl) rfl rfl rfl ?_
    refine oj_step (y_move rfl) rfl rfl rfl ?_
    refine oj_yes rfl rfl rfl ?_
    refine oj_step (y_move rfl) rfl rfl rfl ?_
    refine oj_yes rfl rfl rfl ?_
    refine oj_step (y_neq rfl rfl) rfl rfl rfl ?_
    refine oj_step (y_pick rfl rfl rfl) rfl rfl rfl ?_
    refine oj_step (y_move rfl) rfl rfl rfl ?_
    refine oj_yes rfl rfl rfl ?_
    refine oj_step (y_move rfl) rfl rfl rfl ?_
    refine oj_yes rfl rfl rfl ?_
    refine oj_step (y_neqS rfl rfl) rfl rfl rfl ?_
    refine oj_step (y_pick rfl rfl rfl) rfl rfl rfl ?_
    refine oj_step (y_move rfl) rfl rfl rfl ?_
    refine oj_yes rfl rfl rfl ?_
    refine oj_step (y_move rfl) rfl rfl rfl ?_
    refine oj_yes rfl rfl rfl ?_
    refine oj_step (y_neq rfl rfl) rfl rfl rfl ?_
    refine oj_step (y_pick rfl rfl rfl) rfl rfl rfl ?_
    refine oj_step (y_move rfl) rfl rfl rfl ?_
    refine oj_yes rfl rfl rfl ?_
    refine oj_step (y_move rfl) rfl rfl rfl ?_
    refine oj_yes rfl rfl rfl ?_
    refine oj_step (y_neq rfl rfl) rfl rfl rfl ?_
    refine oj_step (y_pick rfl rfl rfl) rfl rfl rfl ?_
    refine oj_step (y_move rfl) rfl rfl rfl ?_
    refine oj_yes rfl rfl rfl ?_
    refine oj_step (y_move rfl) rfl rfl rfl ?_
    refine oj_yes rfl rfl rfl ?_
    refine oj_step (y_neqS rfl rfl) rfl rfl rfl ?_
    refine oj_step (y_pick rfl rfl rfl) rfl rfl rfl ?_
    refine oj_nil ?_
    refine ej_th ?_
    refine cj_cond rfl (fun h78 => ?_) (fun h78 => ?_)
    · exact absurd h78 (by decide)
    · have h78b := h78
      try simp only [sxb] at h78
      refine cj_skip (ej_th (cj_seq ?_))
      refine cj_plan 12 (by kernel_rfl) (by kernel_rfl) ?_
      refine pl_y 1 rfl (y_loadN Try.isAgg26 Try.sizeOf26 rfl) rfl rfl rfl rfl (by kernel_rfl) ?_
      refine pl_w1 0 (by kernel_rfl) rfl rfl (pl_fire rfl rfl rfl (by kernel_rfl) ?_)
      refine oj_call (X := GrA × Nat × Nat) (fun z => .slice (some ⟨z.1.g12, 0, none⟩) 2 2) (fun _ => []) (fun z => [clF (fun i => z.2.1 ≤ i ∧ i < z.2.2) (at0 z.1.g12) (gramV z.1)]) Try.call58 rfl (fun w hp => k_grammar w) rfl ?_
      rintro ⟨a80, n80, m80⟩
      dsimp only [List.nil_append, List.cons_append]
      refine oj_nil ?_
      refine ej_pl (lt_y (y_loadN Try.isAgg26 Try.sizeOf26 rfl) rfl (lt_nil)) ?_
      refine pl_w1 2 (by kernel_rfl) rfl rfl (pl_fire rfl rfl rfl (by kernel_rfl) ?_)
      refine oj_call (X := Nat) (fun x => .agg #[.string sGem, .slice (some ⟨x, 0, none⟩) 1 1, .slice none 0 0]) (fun _ => []) (fun x => [litS x 1 enStr [sOval]]) Try.call57 rfl (fun w hp => k_gem sOval w) rfl (fun g82 => ?_)
      dsimp only [List.nil_append, List.cons_append]
      refine oj_nil ?_
      refine ej_pl (lt_y (y_loadN Try.isAgg26 Try.sizeOf26 rfl) rfl (lt_nil)) ?_
      refine pl_w1 3 (by kernel_rfl) rfl rfl (pl_fire rfl rfl rfl (by kernel_rfl) ?_)
      refine oj_call (X := Nat) (fun x => .agg #[.string sGem, .slice (some ⟨x, 0, none⟩) 1 1, .slice none 0 0]) (fun _ => []) (fun x => [litS x 1 enStr [sRound]]) Try.call57 rfl (fun w hp => k_gem sRound w) rfl (fun g83 => ?_)
      dsimp only [List.nil_append, List.cons_append]
      refine oj_nil ?_
      refine ej_pl (lt_y (y_loadN Try.isAgg26 Try.sizeOf26 rfl) rfl (lt_nil)) ?_
      refine pl_w1 4 (by kernel_rfl) rfl rfl (pl_fire rfl rfl rfl (by kernel_rfl) ?_)
      refine oj_buildSlice (cs := [.string sGem, .slice (some ⟨g82, 0, none⟩) 1 1, .slice none 0 0, .string sGem, .slice (some ⟨g83, 0, none⟩) 1 1, .slice none 0 0]) [.string ⟨#[]⟩, .slice none 0 0, .slice none 0 0, .string ⟨#[]⟩, .slice none 0 0, .slice none 0 0] Try.underlying24 Try.sizeOf26 Try.zeroValue26 rfl rfl (by kernel_rfl) (by kernel_rfl) rfl (fun b84 => ?_)
      refine oj_nil ?_
      refine ej_pl (lt_y (y_loadN Try.isAgg26 Try.sizeOf26 rfl) rfl (lt_nil)) ?_
      refine pl_w1 5 (by kernel_rfl) rfl rfl (pl_fire rfl rfl rfl (by kernel_rfl) ?_)
      refine oj_call (X := Nat) (fun x => .agg #[.string sRing, .slice (some ⟨x, 0, none⟩) 2 2, .slice (some ⟨b84, 0, none⟩) 2 2]) (fun _ => []) (fun x => [litS x 1 enStr [sGold, sSmall]]) Try.call56 rfl (fun w hp => k_jewel sSmall (some ⟨b84, 0, none⟩) 2 2 w) rfl (fun j85 => ?_)
      dsimp only [List.nil_append, List.cons_append]
      refine oj_nil ?_
      refine ej_pl (lt_y (y_loadN Try.isAgg26 Try.sizeOf26 rfl) rfl (lt_nil)) ?_
      refine pl_y 6 rfl (y_call Try.call13 rfl (fun w hp => ew_Cov1 a80 w (hp_cl hp (fun i => n80 ≤ i ∧ i < m80) (at0 a80.g12) (gramV a80)) j23 b22 g20 g21 (ring_good (b := j23) (g := b22) (s := sNone) (parts := [gemV g20 sRound, gemV g21 sNone]) hp.rd (by decide) (hp.rdLit (b := b22) (sz := 3) (enc := encIt) [gemV g20 sRound, gemV g21 sNone] (fun _ => rfl) rfl (by unfold maxLen; simp)) (fun p hpp => by
        simp only [List.mem_cons, List.mem_nil_iff, or_false] at hpp
        rcases hpp with rfl | rfl
        · exact (gem_good (b := g20) (s := sRound) hp.rd (by decide))
        · exact (gem_good (b := g21) (s := sNone) hp.rd (by decide)))) j85 b84 g82 g83 (ring_good (b := j85) (g := b84) (s := sSmall) (parts := [gemV g82 sOval, gemV g83 sRound]) hp.rd (by decide) (hp.rdLit (b := b84) (sz := 3) (enc := encIt) [gemV g82 sOval, gemV g83 sRound] (fun _ => rfl) rfl (by unfold maxLen; simp)) (fun p hpp => by
        simp only [List.mem_cons, List.mem_nil_iff, or_false] at hpp
        rcases hpp with rfl | rfl
        · exact (gem_good (b := g82) (s := sOval) hp.rd (by decide))
        · exact (gem_good (b := g83) (s := sRound) hp.rd (by decide)))))) rfl rfl rfl rfl (by kernel_rfl) ?_
      refine pl_y 7 rfl (y_move rfl) rfl rfl rfl rfl (by kernel_rfl) ?_
      refine pl_y 8 rfl (y_extract rfl rfl) rfl rfl rfl rfl (by kernel_rfl) ?_
      refine pl_y 9 rfl (y_extract rfl rfl) rfl rfl rfl rfl (by kernel_rfl) ?_
      refine pl_y 10 rfl (y_assign rfl) rfl rfl rfl rfl (by kernel_rfl) ?_
      refine pl_y 11 rfl (y_assign rfl) rfl rfl rfl rfl (by kernel_rfl) ?_
      refine pl_end (by kernel_rfl) ?_
      refine ej_th (cj_seq ?_)
      refine cj_plan 11 (by kernel_rfl) (by kernel_rfl) ?_
      refine pl_y 1 rfl (y_loadN Try.isAgg26 Try.sizeOf26 rfl) rfl rfl rfl rfl (by kernel_rfl) ?_
      refine pl_w1 0 (by kernel_rfl) rfl rfl (pl_fire rfl rfl rfl (by kernel_rfl) ?_)
      refine oj_call (X := GrA × Nat × Nat) (fun z => .slice (some ⟨z.1.g12, 0, none⟩) 2 2) (fun _ => []) (fun z => [clF (fun i => z.2.1 ≤ i ∧ i < z.2.2) (at0 z.1.g12) (gramV z.1)]) Try.call58 rfl (fun w hp => k_grammar w) rfl ?_
      rintro ⟨a90, n90, m90⟩
      dsimp only [List.nil_append, List.cons_append]
      refine oj_nil ?_
      refine ej_pl (lt_y (y_loadN Try.isAgg26 Try.sizeOf26 rfl) rfl (lt_nil)) ?_
      refine pl_w1 2 (by kernel_rfl) rfl rfl (pl_fire rfl rfl rfl (by kernel_rfl) ?_)
      refine oj_call (X := Nat) (fun x => .agg #[.string sGem, .slice (some ⟨x, 0, none⟩) 1 1, .slice none 0 0]) (fun _ => []) (fun x => [litS x 1 enStr [sNone]]) Try.call57 rfl (fun w hp => k_gem sNone w) rfl (fun g92 => ?_)
      dsimp only [List.nil_append, List.cons_append]
      refine oj_nil ?_
      refine ej_pl (lt_y (y_loadN Try.isAgg26 Try.sizeOf26 rfl) rfl (lt_nil)) ?_
      refine pl_w1 3 (by kernel_rfl) rfl rfl (pl_fire rfl rfl rfl (by kernel_rfl) ?_)
      refine oj_buildSlice (cs := [.string sGem, .slice (some ⟨g92, 0, none⟩) 1 1, .slice none 0 0]) [.string ⟨#[]⟩, .slice none 0 0, .slice none 0 0] Try.underlying24 Try.sizeOf26 Try.zeroValue26 rfl rfl (by kernel_rfl) (by kernel_rfl) rfl (fun b93 => ?_)
      refine oj_nil ?_
      refine ej_pl (lt_y (y_loadN Try.isAgg26 Try.sizeOf26 rfl) rfl (lt_nil)) ?_
      refine pl_w1 4 (by kernel_rfl) rfl rfl (pl_fire rfl rfl rfl (by kernel_rfl) ?_)
      refine oj_call (X := Nat) (fun x => .agg #[.string sRing, .slice (some ⟨x, 0, none⟩) 2 2, .slice (some ⟨b93, 0, none⟩) 1 1]) (fun _ => []) (fun x => [litS x 1 enStr [sGold, sNone]]) Try.call56 rfl (fun w hp => k_jewel sNone (some ⟨b93, 0, none⟩) 1 1 w) rfl (fun j94 => ?_)
      dsimp only [List.nil_append, List.cons_append]
      refine oj_nil ?_
      refine ej_pl (lt_y (y_loadN Try.isAgg26 Try.sizeOf26 rfl) rfl (lt_nil)) ?_
      refine pl_y 5 rfl (y_call Try.call13 rfl (fun w hp => ew_Cov2 a90 w (hp_cl hp (fun i => n90 ≤ i ∧ i < m90) (at0 a90.g12) (gramV a90)) j23 b22 g20 g21 (ring_good (b := j23) (g := b22) (s := sNone) (parts := [gemV g20 sRound, gemV g21 sNone]) hp.rd (by decide) (hp.rdLit (b := b22) (sz := 3) (enc := encIt) [gemV g20 sRound, gemV g21 sNone] (fun _ => rfl) rfl (by unfold maxLen; simp)) (fun p hpp => by
        simp only [List.mem_cons, List.mem_nil_iff, or_false] at hpp
        rcases hpp with rfl | rfl
        · exact (gem_good (b := g20) (s := sRound) hp.rd (by decide))
        · exact (gem_good (b := g21) (s := sNone) hp.rd (by decide)))) j94 b93 g92 (ring_good (b := j94) (g := b93) (s := sNone) (parts := [gemV g92 sNone]) hp.rd (by decide) (hp.rdLit (b := b93) (sz := 3) (enc := encIt) [gemV g92 sNone] (fun _ => rfl) rfl (by unfold maxLen; simp)) (fun p hpp => by
        simp only [List.mem_cons, List.mem_nil_iff, or_false] at hpp
        rcases hpp with rfl
        · exact (gem_good (b := g92) (s := sNone) hp.rd (by decide)))))) rfl rfl rfl rfl (by kernel_rfl) ?_
      refine pl_y 6 rfl (y_move rfl) rfl rfl rfl rfl (by kernel_rfl) ?_
      refine pl_y 7 rfl (y_extract rfl rfl) rfl rfl rfl rfl (by kernel_rfl) ?_
      refine pl_y 8 rfl (y_extract rfl rfl) rfl rfl rfl rfl (by kernel_rfl) ?_
      refine pl_y 9 rfl (y_assign rfl) rfl rfl rfl rfl (by kernel_rfl) ?_
      refine pl_y 10 rfl (y_assign rfl) rfl rfl rfl rfl (by kernel_rfl) ?_
      refine pl_end (by kernel_rfl) ?_
      refine ej_th (cj_seq (cj_region ?_))
      refine oj_call (X := Nat × Nat × Nat × Nat × Nat) (fun z => .agg #[.slice (some ⟨z.1, 0, none⟩) 2 2, .slice (some ⟨z.2.1, 0, none⟩) 2 2, .slice (some ⟨z.2.2.1, 0, none⟩) 2 2]) (fun _ => []) (fun z => [litS z.1 2 encMe mEx, litS z.2.1 1 enInt tEx, litS z.2.2.1 1 encFk (fEx z.2.2.2.1 z.2.2.2.2), litS z.2.2.2.1 2 encSp [⟨90, 93⟩, ⟨900, 1100⟩], litS z.2.2.2.2 2 encSp [⟨95, 105⟩, ⟨1016, 1030⟩]]) Try.call59 rfl (fun w hp => k_skillEx w) rfl ?_
      rintro ⟨mm, mt, mf, m1, m2⟩
      dsimp only [List.nil_append, List.cons_append]
      refine oj_alloc Try.zeroValue48 rfl rfl (fun b13 => ?_)
      refine oj_store rfl rfl rfl rfl Try.sizeOf48 rfl ?_
      refine oj_nil ?_
      refine ej_th (cj_seq (cj_region ?_))
      refine oj_step (y_fa0 fa48_0 rfl) rfl rfl rfl ?_
      refine oj_step (y_load1 Try.isAgg35 rfl rfl) rfl rfl rfl ?_
      refine oj_buildSlice (cs := [.int .i64 100, .int .i64 1000]) [.int .i64 0, .int .i64 0] Try.underlying37 Try.sizeOf3 Try.zeroValue3 rfl rfl (by kernel_rfl) (by kernel_rfl) rfl (fun b102 => ?_)
      refine oj_buildSlice (cs := [.int .i64 103, .int .i64 (-1)]) [.int .i64 0, .int .i64 0] Try.underlying37 Try.sizeOf3 Try.zeroValue3 rfl rfl (by kernel_rfl) (by kernel_rfl) rfl (fun b103 => ?_)
      refine oj_buildSlice (cs := [.slice (some ⟨b102, 0, none⟩) 2 2, .slice (some ⟨b103, 0, none⟩) 2 2]) [.slice none 0 0, .slice none 0 0] Try.underlying36 Try.sizeOf37 Try.zeroValue37 rfl rfl (by kernel_rfl) (by kernel_rfl) rfl (fun b104 => ?_)
      refine oj_callS (fun A c => .tuple #[.slice A ([⟨101, 102⟩, ⟨995, 1005⟩] : List Span).length c, .int .i64 0]) 2 encSp ([⟨101, 102⟩, ⟨995, 1005⟩] : List Span) Try.call19 rfl (fun w hp => ew_Narrow (some ⟨mm, 0, none⟩) (some ⟨b104, 0, none⟩) b102 b103 w hp.rd (hp.rdLit (b := b104) (sz := 1) (enc := encLs) (rEx b102 b103) (fun _ => rfl) rfl (by unfold maxLen; simp)) (fun r hr => by
        simp only [List.mem_cons, List.mem_nil_iff, or_false] at hr
        rcases hr with rfl | rfl
        · exact (hp.rdLit (b := b102) (sz := 1) (enc := enInt) [100, 1000] (fun _ => rfl) rfl (by unfold maxLen; simp))
        · exact (hp.rdLit (b := b103) (sz := 1) (enc := enInt) [103, -1] (fun _ => rfl) rfl (by unfold maxLen; simp)))) rfl (fun A105 c105 fp105 hfp105 => ?_)
      refine oj_step (y_move rfl) rfl rfl rfl ?_
      refine oj_step (y_extract rfl rfl) rfl rfl rfl ?_
      refine oj_step (y_extract rfl rfl) rfl rfl rfl ?_
      refine oj_step (y_assign rfl) rfl rfl rfl ?_
      refine oj_step (y_assign rfl) rfl rfl rfl ?_
      refine oj_nil ?_
      refine ej_th (cj_seq (cj_region ?_))
      refine oj_step (y_fa0 fa48_0 rfl) rfl rfl rfl ?_
      refine oj_step (y_load1 Try.isAgg35 rfl rfl) rfl rfl rfl ?_
      refine oj_step (y_fa fa48_1 rfl) rfl rfl rfl ?_
      refine oj_step (y_load1 Try.isAgg37 rfl rfl) rfl rfl rfl ?_
      refine oj_step (y_fa fa48_2 rfl) rfl rfl rfl ?_
      refine oj_step (y_load1 Try.isAgg46 rfl rfl) rfl rfl rfl ?_
      refine oj_callS (fun A c => .tuple #[.slice A ([0, 1] : List Int).length c, .int .i64 5, .int .i64 0]) 1 enInt ([0, 1] : List Int) Try.call26 rfl (fun w hp => ew_Least (some ⟨mm, 0, none⟩) (some ⟨mt, 0, none⟩) (some ⟨mf, 0, none⟩) m1 m2 w hp.rd hp.rd hp.rd (fun f hff => by
        simp only [List.mem_cons, List.mem_nil_iff, or_false] at hff
        rcases hff with rfl | rfl
        · exact hp.rd
        · exact hp.rd)) rfl (fun A115 c115 fp115 hfp115 => ?_)
      refine oj_step (y_move rfl) rfl rfl rfl ?_
      refine oj_step (y_extract rfl rfl) rfl rfl rfl ?_
      refine oj_step (y_extract rfl rfl) rfl rfl rfl ?_
      refine oj_step (y_extract rfl rfl) rfl rfl rfl ?_
      refine oj_step (y_assign rfl) rfl rfl rfl ?_
      refine oj_step (y_assign rfl) rfl rfl rfl ?_
      refine oj_step (y_assign rfl) rfl rfl rfl ?_
      refine oj_nil ?_
      refine ej_th (cj_seq (cj_seq (cj_region ?_)))
      refine oj_step (y_move rfl) rfl rfl rfl ?_
      refine oj_step (y_neq rfl rfl) rfl rfl rfl ?_
      refine oj_step (y_move rfl) rfl rfl rfl ?_
      refine oj_yes rfl rfl rfl ?_
      refine oj_step (y_move rfl) rfl rfl rfl ?_
      refine oj_yes rfl rfl rfl ?_
      refine oj_step (y_neq rfl rfl) rfl rfl rfl ?_
      refine oj_step (y_pick rfl rfl rfl) rfl rfl rfl ?_
      refine oj_step (y_move rfl) rfl rfl rfl ?_
      refine oj_yes rfl rfl rfl ?_
      refine oj_step (y_move rfl) rfl rfl rfl ?_
      refine oj_yes rfl rfl rfl ?_
      refine oj_step (y_neq rfl rfl) rfl rfl rfl ?_
      refine oj_step (y_pick rfl rfl rfl) rfl rfl rfl ?_
      refine oj_step (y_move rfl) rfl rfl rfl ?_
      refine oj_yes rfl rfl rfl ?_
      refine oj_step (y_move rfl) rfl rfl rfl ?_
      refine oj_yes rfl rfl rfl ?_
      refine oj_step (y_neq rfl rfl) rfl rfl rfl ?_
      refine oj_step (y_pick rfl rfl rfl) rfl rfl rfl ?_
      refine oj_step (y_move rfl) rfl rfl rfl ?_
      refine oj_yes rfl rfl rfl ?_
      refine oj_step (y_move rfl) rfl rfl rfl ?_
      refine oj_yes rfl rfl rfl ?_
      refine oj_step (y_not rfl) rfl rfl rfl ?_
      refine oj_step (y_pick rfl rfl rfl) rfl rfl rfl ?_
      refine oj_step (y_move rfl) rfl rfl rfl ?_
      refine oj_yes rfl rfl rfl ?_
      refine oj_step (y_move rfl) rfl rfl rfl ?_
      refine oj_step (y_pick rfl rfl rfl) rfl rfl rfl ?_
      refine oj_step (y_move rfl) rfl rfl rfl ?_
      refine oj_yes rfl rfl rfl ?_
      refine oj_step (y_move rfl) rfl rfl rfl ?_
      refine oj_yes rfl rfl rfl ?_
      refine oj_step (y_build (cs := [.int .i64 101, .int .i64 102]) st62 rfl (by kernel_rfl)) rfl rfl rfl ?_
      refine oj_yes rfl rfl rfl ?_
      refine oj_step (y_build (cs := [.int .i64 995, .int .i64 1005]) st62 rfl (by kernel_rfl)) rfl rfl rfl ?_
      refine oj_yes rfl rfl rfl ?_
      refine oj_buildSlice (cs := [.int .i64 101, .int .i64 102, .int .i64 995, .int .i64 1005]) [.int .i64 0, .int .i64 0, .int .i64 0, .int .i64 0] Try.underlying39 Try.sizeOf62 Try.zeroValue62 rfl rfl (by kernel_rfl) (by kernel_rfl) rfl (fun b144 => ?_)
      refine oj_yes rfl rfl rfl ?_
      refine oj_step (y_call Try.call21 rfl (fun w hp => k_SameSp ([⟨101, 102⟩, ⟨995, 1005⟩] : List Span) ([⟨101, 102⟩, ⟨995, 1005⟩] : List Span) A105 (some ⟨b144, 0, none⟩) c105 2 w hp.rd (hp.rdLit (b := b144) (sz := 2) (enc := encSp) ([⟨101, 102⟩, ⟨995, 1005⟩] : List Span) (fun _ => rfl) rfl (by unfold maxLen; simp)))) rfl rfl rfl ?_
      refine oj_yes rfl rfl rfl ?_
      refine oj_step (y_not rfl) rfl rfl rfl ?_
      refine oj_step (y_pick rfl rfl rfl) rfl rfl rfl ?_
      refine oj_step (y_move rfl) rfl rfl rfl ?_
      refine oj_yes rfl rfl rfl ?_
      refine oj_step (y_move rfl) rfl rfl rfl ?_
      refine oj_yes rfl rfl rfl ?_
      refine oj_buildSlice (cs := [.int .i64 0, .int .i64 1]) [.int .i64 0, .int .i64 0] Try.underlying37 Try.sizeOf3 Try.zeroValue3 rfl rfl (by kernel_rfl) (by kernel_rfl) rfl (fun b150 => ?_)
      refine oj_yes rfl rfl rfl ?_
      refine oj_step (y_call Try.call28 rfl (fun w hp => k_Same ([0, 1] : List Int) ([0, 1] : List Int) A115 (some ⟨b150, 0, none⟩) c115 2 w hp.rd (hp.rdLit (b := b150) (sz := 1) (enc := enInt) ([0, 1] : List Int) (fun _ => rfl) rfl (by unfold maxLen; simp)))) rfl rfl rfl ?_
      refine oj_yes rfl rfl rfl ?_
      refine oj_step (y_not rfl) rfl rfl rfl ?_
      refine oj_step (y_pick rfl rfl rfl) rfl rfl rfl ?_
      refine oj_step (y_move rfl) rfl rfl rfl ?_
      refine oj_yes rfl rfl rfl ?_
      refine oj_step (y_move rfl) rfl rfl rfl ?_
      refine oj_yes rfl rfl rfl ?_
      refine oj_step (y_neq rfl rfl) rfl rfl rfl ?_
      refine oj_step (y_pick rfl rfl rfl) rfl rfl rfl ?_
      refine oj_nil ?_
      refine ej_th ?_
      refine cj_cond rfl (fun h157 => ?_) (fun h157 => ?_)
      · exact absurd h157 (by decide)
      · have h157b := h157
        try simp only [sxb] at h157
        refine cj_skip (ej_th (cj_seq ?_))
        refine cj_plan 14 (by kernel_rfl) (by kernel_rfl) ?_
        refine pl_y 0 rfl (y_fa0 fa48_0 rfl) rfl rfl rfl rfl (by kernel_rfl) ?_
        refine pl_y 1 rfl (y_load1 Try.isAgg35 rfl rfl) rfl rfl rfl rfl (by kernel_rfl) ?_
        refine pl_y 2 rfl (y_fa fa48_1 rfl) rfl rfl rfl rfl (by kernel_rfl) ?_
        refine pl_y 3 rfl (y_load1 Try.isAgg37 rfl rfl) rfl rfl rfl rfl (by kernel_rfl) ?_
        refine pl_y 4 rfl (y_fa fa48_2 rfl) rfl rfl rfl rfl (by kernel_rfl) ?_
        refine pl_y 5 rfl (y_load1 Try.isAgg46 rfl rfl) rfl rfl rfl rfl (by kernel_rfl) ?_
        refine pl_y 6 rfl (y_ixR (reads_sl (xs := fEx m1 m2) (enc := encFk) (sz := 1)) Try.underlying46 Try.sizeOf80 rfl rfl ⟨by decide, show (0 : Int) < ((2 : Nat) : Int) by decide⟩) rfl rfl rfl rfl (by kernel_rfl) ?_
        refine pl_y 7 rfl (y_ldW (reads_sl) Try.isAgg80 Try.sizeOf80 rfl (rfl) (fun _ => rfl)) rfl rfl rfl rfl (by kernel_rfl) ?_
        refine pl_w1 8 (by kernel_rfl) rfl rfl (pl_fire rfl rfl rfl (by kernel_rfl) ?_)
        refine oj_callS (fun A c => .tuple #[.slice A ([0] : List Int).length c, .int .i64 0]) 1 enInt ([0] : List Int) Try.call45 rfl (fun w hp => ew_Finds (some ⟨mm, 0, none⟩) (some ⟨mt, 0, none⟩) m1 w hp.rd hp.rd hp.rd) rfl (fun A167 c167 fp167 hfp167 => ?_)
        refine oj_nil ?_
        refine ej_pl (lt_w (by kernel_rfl) (lt_y (y_ixR (reads_sl (xs := fEx m1 m2) (enc := encFk) (sz := 1)) Try.underlying46 Try.sizeOf80 rfl rfl ⟨by decide, show (0 : Int) < ((2 : Nat) : Int) by decide⟩) rfl (lt_y (y_load1 Try.isAgg46 rfl rfl) rfl (lt_y (y_fa fa48_2 rfl) rfl (lt_w (by kernel_rfl) (lt_y (y_fa fa48_1 rfl) rfl (lt_w (by kernel_rfl) (lt_y (y_fa0 fa48_0 rfl) rfl (lt_nil))))))))) ?_
        refine pl_y 9 rfl (y_move rfl) rfl rfl rfl rfl (by kernel_rfl) ?_
        refine pl_y 10 rfl (y_extract rfl rfl) rfl rfl rfl rfl (by kernel_rfl) ?_
        refine pl_y 11 rfl (y_extract rfl rfl) rfl rfl rfl rfl (by kernel_rfl) ?_
        refine pl_y 12 rfl (y_assign rfl) rfl rfl rfl rfl (by kernel_rfl) ?_
        refine pl_y 13 rfl (y_assign rfl) rfl rfl rfl rfl (by kernel_rfl) ?_
        refine pl_end (by kernel_rfl) ?_
        refine ej_th (cj_seq (cj_region ?_))
        refine oj_step (y_fa0 fa48_0 rfl) rfl rfl rfl ?_
        refine oj_step (y_load1 Try.isAgg35 rfl rfl) rfl rfl rfl ?_
        refine oj_step (y_fa fa48_1 rfl) rfl rfl rfl ?_
        refine oj_step (y_load1 Try.isAgg37 rfl rfl) rfl rfl rfl ?_
        refine oj_buildSlice (cs := [.int .i64 104, .int .i64 1010]) [.int .i64 0, .int .i64 0] Try.underlying37 Try.sizeOf3 Try.zeroValue3 rfl rfl (by kernel_rfl) (by kernel_rfl) rfl (fun b175 => ?_)
        refine oj_step (y_call Try.call24 rfl (fun w hp => ew_Agree (some ⟨mm, 0, none⟩) (some ⟨mt, 0, none⟩) (some ⟨b175, 0, none⟩) w hp.rd hp.rd (hp.rdLit (b := b175) (sz := 1) (enc := enInt) [104, 1010] (fun _ => rfl) rfl (by unfold maxLen; simp)))) rfl rfl rfl ?_
        refine oj_step (y_move rfl) rfl rfl rfl ?_
        refine oj_step (y_extract rfl rfl) rfl rfl rfl ?_
        refine oj_step (y_extract rfl rfl) rfl rfl rfl ?_
        refine oj_step (y_assign rfl) rfl rfl rfl ?_
        refine oj_step (y_assign rfl) rfl rfl rfl ?_
        refine oj_nil ?_
        refine ej_th (cj_seq (cj_region ?_))
        refine oj_step (y_fa0 fa48_0 rfl) rfl rfl rfl ?_
        refine oj_step (y_load1 Try.isAgg35 rfl rfl) rfl rfl rfl ?_
        refine oj_step (y_fa fa48_1 rfl) rfl rfl rfl ?_
        refine oj_step (y_load1 Try.isAgg37 rfl rfl) rfl rfl rfl ?_
        refine oj_step (y_fa fa48_2 rfl) rfl rfl rfl ?_
        refine oj_step (y_load1 Try.isAgg46 rfl rfl) rfl rfl rfl ?_
        refine oj_buildSlice (cs := [.int .i64 1, .int .i64 4]) [.int .i64 0, .int .i64 0] Try.underlying37 Try.sizeOf3 Try.zeroValue3 rfl rfl (by kernel_rfl) (by kernel_rfl) rfl (fun b186 => ?_)
        refine oj_step (y_call Try.call29 rfl (fun w hp => ew_Bound (some ⟨mm, 0, none⟩) (some ⟨mt, 0, none⟩) (some ⟨mf, 0, none⟩) (some ⟨b186, 0, none⟩) m1 m2 w hp.rd hp.rd hp.rd (fun f hff => by
          simp only [List.mem_cons, List.mem_nil_iff, or_false] at hff
          rcases hff with rfl | rfl
          · exact hp.rd
          · exact hp.rd) (hp.rdLit (b := b186) (sz := 1) (enc := enInt) [1, 4] (fun _ => rfl) rfl (by unfold maxLen; simp)))) rfl rfl rfl ?_
        refine oj_step (y_move rfl) rfl rfl rfl ?_
        refine oj_step (y_extract rfl rfl) rfl rfl rfl ?_
        refine oj_step (y_extract rfl rfl) rfl rfl rfl ?_
        refine oj_step (y_assign rfl) rfl rfl rfl ?_
        refine oj_step (y_assign rfl) rfl rfl rfl ?_
        refine oj_nil ?_
        refine ej_th (cj_seq (cj_region ?_))
        refine oj_step (y_move rfl) rfl rfl rfl ?_
        refine oj_step (y_eql rfl rfl) rfl rfl rfl ?_
        refine oj_step (y_move rfl) rfl rfl rfl ?_
        refine oj_yes rfl rfl rfl ?_
        refine oj_step (y_move rfl) rfl rfl rfl ?_
        refine oj_yes rfl rfl rfl ?_
        refine oj_step (y_eql rfl rfl) rfl rfl rfl ?_
        refine oj_step (y_pick rfl rfl rfl) rfl rfl rfl ?_
        refine oj_step (y_move rfl) rfl rfl rfl ?_
        refine oj_yes rfl rfl rfl ?_
        refine oj_step (y_move rfl) rfl rfl rfl ?_
        refine oj_yes rfl rfl rfl ?_
        refine oj_step (y_eql rfl rfl) rfl rfl rfl ?_
        refine oj_step (y_pick rfl rfl rfl) rfl rfl rfl ?_
        refine oj_step (y_move rfl) rfl rfl rfl ?_
        refine oj_yes rfl rfl rfl ?_
        refine oj_step (y_move rfl) rfl rfl rfl ?_
        refine oj_yes rfl rfl rfl ?_
        refine oj_buildSlice (cs := [.int .i64 0]) [.int .i64 0] Try.underlying37 Try.sizeOf3 Try.zeroValue3 rfl rfl (by kernel_rfl) (by kernel_rfl) rfl (fun b202 => ?_)
        refine oj_yes rfl rfl rfl ?_
        refine oj_step (y_call Try.call28 rfl (fun w hp => k_Same ([0] : List Int) ([0] : List Int) A167 (some ⟨b202, 0, none⟩) c167 1 w hp.rd (hp.rdLit (b := b202) (sz := 1) (enc := enInt) ([0] : List Int) (fun _ => rfl) rfl (by unfold maxLen; simp)))) rfl rfl rfl ?_
        refine oj_step (y_pick rfl rfl rfl) rfl rfl rfl ?_
        refine oj_step (y_move rfl) rfl rfl rfl ?_
        refine oj_yes rfl rfl rfl ?_
        refine oj_step (y_move rfl) rfl rfl rfl ?_
        refine oj_step (y_pick rfl rfl rfl) rfl rfl rfl ?_
        refine oj_step (y_move rfl) rfl rfl rfl ?_
        refine oj_yes rfl rfl rfl ?_
        refine oj_step (y_move rfl) rfl rfl rfl ?_
        refine oj_yes rfl rfl rfl ?_
        refine oj_step (y_eql rfl rfl) rfl rfl rfl ?_
        refine oj_step (y_pick rfl rfl rfl) rfl rfl rfl ?_
        refine oj_step (y_assign rfl) rfl rfl rfl ?_
        refine oj_nil ?_
        refine ej_th (cj_ret ?_)
        exact ej_ret1 rfl Try.results18 rfl (fun w' hp => ⟨rfl, hp.below⟩)

end Go.Proofs.Ytlfbghkcfmcnlaa
