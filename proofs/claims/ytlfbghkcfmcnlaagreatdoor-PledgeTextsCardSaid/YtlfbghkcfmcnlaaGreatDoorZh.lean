/- Texts of ours, joined: 6 of them. Conditions: none. -/
import Derived.Test.YtlfbghkcfmcnlaaGreatDoorZg
import Derived.Shelf.Strings.Split
import Derived.Shelf.Small.Wraps
import Derived.Test.YtlfbghkcfmcnlaaGreatDoorProg
namespace Go.Proofs.YtlfbghkcfmcnlaaGreatDoor
open Go.Sx Go.RowKit
set_option maxRecDepth 20000
theorem ew_Print (a : GrA) (w : World) (hl : Rd w 4 encCl (at0 a.g12) (gramV a) ∧ ∀ c ∈ gramV a, GoodC w c) (b g c d : Nat) (hx : GoodI w (ringV b sNone g [gemV c sRound, gemV d sNone])) : Calls Tryz.prog 6 #[.slice (some ⟨a.g12, 0, none⟩) 2 2, .agg #[.string sRing, .slice (some ⟨b, 0, none⟩) 2 2, .slice (some ⟨g, 0, none⟩) 2 2]] w (fun e w' => e = .returned (.tuple #[.string sTx1, .int .i64 0]) ∧ Grow w w') := by
  have h := k_Print (gramV a) (at0 a.g12) 2 (ringV b sNone g [gemV c sRound, gemV d sNone]) w hl.1 hl.2 hx
  rw [ex_prn, ex_ask] at h
  exact h
theorem ew_Count (a : GrA) (w : World) (hl : Rd w 4 encCl (at0 a.g12) (gramV a) ∧ ∀ c ∈ gramV a, GoodC w c) (b g c d : Nat) (hx : GoodI w (ringV b sNone g [gemV c sRound, gemV d sNone])) : Calls Tryz.prog 39 #[.slice (some ⟨a.g12, 0, none⟩) 2 2, .agg #[.string sRing, .slice (some ⟨b, 0, none⟩) 2 2, .slice (some ⟨g, 0, none⟩) 2 2]] w (fun e w' => e = .returned (.tuple #[.int .i64 3, .int .i64 2, .int .i64 0]) ∧ Grow w w') := by
  have h := k_Count (gramV a) (at0 a.g12) 2 (ringV b sNone g [gemV c sRound, gemV d sNone]) w hl.1 hl.2 hx
  rw [ex_cntI, ex_cntS, ex_ask] at h
  exact h
theorem ew_Sort (a : GrA) (w : World) (hl : Rd w 4 encCl (at0 a.g12) (gramV a) ∧ ∀ c ∈ gramV a, GoodC w c) (b g c d : Nat) (hx : GoodI w (ringV b sNone g [gemV c sRound, gemV d sNone])) : Calls Tryz.prog 40 #[.slice (some ⟨a.g12, 0, none⟩) 2 2, .agg #[.string sRing, .slice (some ⟨b, 0, none⟩) 2 2, .slice (some ⟨g, 0, none⟩) 2 2]] w (fun e w' => ∃ y : ItemV, e = .returned (.tuple #[evI y, .int .i64 0]) ∧ Grow w w' ∧ y.pl = ringS ∧ GoodF (fun i => w.heap.size ≤ i ∧ i < w'.heap.size) w' y) := by
  have h := k_Sort (gramV a) (at0 a.g12) 2 (ringV b sNone g [gemV c sRound, gemV d sNone]) w hl.1 hl.2 hx
  rw [ex_ask, ex_srt] at h
  exact h
theorem ew_Print2 (a : GrA) (w : World) (hl : Rd w 4 encCl (at0 a.g12) (gramV a) ∧ ∀ c ∈ gramV a, GoodC w c) (y : ItemV) (hx : GoodI w y) (hy : y.pl = ringS) : Calls Tryz.prog 6 #[.slice (some ⟨a.g12, 0, none⟩) 2 2, evI y] w (fun e w' => e = .returned (.tuple #[.string sTx2, .int .i64 0]) ∧ Grow w w') := by
  have h := k_Print (gramV a) (at0 a.g12) 2 y w hl.1 hl.2 hx
  rw [ex_prn2 a hy, ex_ask2 a hy] at h
  exact h
theorem ew_Cov1 (a : GrA) (w : World) (hl : Rd w 4 encCl (at0 a.g12) (gramV a) ∧ ∀ c ∈ gramV a, GoodC w c) (b g c d : Nat) (hx : GoodI w (ringV b sNone g [gemV c sRound, gemV d sNone])) (b2 g2 c2 d2 : Nat) (hy : GoodI w (ringV b2 sSmall g2 [gemV c2 sOval, gemV d2 sRound])) : Calls Tryz.prog 41 #[.slice (some ⟨a.g12, 0, none⟩) 2 2, .agg #[.string sRing, .slice (some ⟨b, 0, none⟩) 2 2, .slice (some ⟨g, 0, none⟩) 2 2], .agg #[.string sRing, .slice (some ⟨b2, 0, none⟩) 2 2, .slice (some ⟨g2, 0, none⟩) 2 2]] w (fun e w' => e = .returned (.tuple #[.bool true, .int .i64 0]) ∧ Grow w w') := by
  have h := k_Covers (gramV a) (at0 a.g12) 2 (ringV b sNone g [gemV c sRound, gemV d sNone]) (ringV b2 sSmall g2 [gemV c2 sOval, gemV d2 sRound]) w hl.1 hl.2 hx hy
  rw [ex_cov1, ex_cov1e] at h
  exact h
theorem ew_Cov2 (a : GrA) (w : World) (hl : Rd w 4 encCl (at0 a.g12) (gramV a) ∧ ∀ c ∈ gramV a, GoodC w c) (b g c d : Nat) (hx : GoodI w (ringV b sNone g [gemV c sRound, gemV d sNone])) (b2 g2 c2 : Nat) (hy : GoodI w (ringV b2 sNone g2 [gemV c2 sNone])) : Calls Tryz.prog 41 #[.slice (some ⟨a.g12, 0, none⟩) 2 2, .agg #[.string sRing, .slice (some ⟨b, 0, none⟩) 2 2, .slice (some ⟨g, 0, none⟩) 2 2], .agg #[.string sRing, .slice (some ⟨b2, 0, none⟩) 2 2, .slice (some ⟨g2, 0, none⟩) 1 1]] w (fun e w' => e = .returned (.tuple #[.bool false, .int .i64 0]) ∧ Grow w w') := by
  have h := k_Covers (gramV a) (at0 a.g12) 2 (ringV b sNone g [gemV c sRound, gemV d sNone]) (ringV b2 sNone g2 [gemV c2 sNone]) w hl.1 hl.2 hx hy
  rw [ex_cov2, ex_cov2e] at h
  exact h
theorem ew_Narrow (A B : Option Addr) (b c : Nat) (w : World) (hm : Rd w 2 encMe A mEx) (hl : Rd w 1 encLs B (rEx b c)) (hgl : ∀ r ∈ rEx b c, GoodL w r) : Calls Tryz.prog 20 #[.slice A 2 2, .slice B 2 2] w (fun e w' => ∃ A c, e = .returned (.tuple #[.slice A (([⟨101, 102⟩, ⟨995, 1005⟩] : List Span)).length c, .int .i64 0]) ∧ Grow w w' ∧ Res w w' 2 encSp A (([⟨101, 102⟩, ⟨995, 1005⟩] : List Span))) := by
  have h := k_Narrow mEx A 2 (rEx b c) B 2 w hm hl hgl
  rw [ex_narL, ex_narE] at h
  exact h
theorem ew_Least (A At Af : Option Addr) (b c : Nat) (w : World) (hm : Rd w 2 encMe A mEx) (ht : Rd w 1 enInt At tEx) (hf : Rd w 1 encFk Af (fEx b c)) (hgf : ∀ f ∈ fEx b c, GoodK w f) : Calls Tryz.prog 24 #[.slice A 2 2, .slice At 2 2, .slice Af 2 2] w (fun e w' => ∃ A c, e = .returned (.tuple #[.slice A (([0, 1] : List Int)).length c, .int .i64 5, .int .i64 0]) ∧ Grow w w' ∧ Res w w' 1 enInt A (([0, 1] : List Int))) := by
  have h := k_Least mEx A 2 tEx At 2 (fEx b c) Af 2 w hm ht hf hgf
  rw [ex_lstS, ex_lstN, ex_lstE] at h
  exact h
theorem ew_Finds (A At : Option Addr) (b : Nat) (w : World) (hm : Rd w 2 encMe A mEx) (ht : Rd w 1 enInt At tEx) (hr : Rd w 2 encSp (at0 b) [⟨90, 93⟩, ⟨900, 1100⟩]) : Calls Tryz.prog 22 #[.slice A 2 2, .slice At 2 2, .agg #[.slice (some ⟨b, 0, none⟩) 2 2]] w (fun e w' => ∃ A c, e = .returned (.tuple #[.slice A (([0] : List Int)).length c, .int .i64 0]) ∧ Grow w w' ∧ Res w w' 1 enInt A (([0] : List Int))) := by
  have h := k_Finds mEx A 2 tEx At 2 ⟨at0 b, 2, [⟨90, 93⟩, ⟨900, 1100⟩]⟩ w hm ht hr
  rw [ex_fndL, ex_fndE] at h
  exact h
theorem ew_Agree (A At B : Option Addr) (w : World) (hm : Rd w 2 encMe A mEx) (ht : Rd w 1 enInt At tEx) (hb : Rd w 1 enInt B [104, 1010]) : Calls Tryz.prog 21 #[.slice A 2 2, .slice At 2 2, .slice B 2 2] w (fun e w' => e = .returned (.tuple #[.bool true, .int .i64 0]) ∧ Grow w w') := by
  have h := k_Agree mEx A 2 tEx [104, 1010] At B 2 2 w hm ht hb
  rw [ex_agrB, ex_agrE] at h
  exact h
theorem ew_Bound (A At Af B : Option Addr) (b c : Nat) (w : World) (hm : Rd w 2 encMe A mEx) (ht : Rd w 1 enInt At tEx) (hf : Rd w 1 encFk Af (fEx b c)) (hgf : ∀ f ∈ fEx b c, GoodK w f) (hb : Rd w 1 enInt B [1, 4]) : Calls Tryz.prog 25 #[.slice A 2 2, .slice At 2 2, .slice Af 2 2, .slice B 2 2] w (fun e w' => e = .returned (.tuple #[.int .i64 5, .int .i64 0]) ∧ Grow w w') := by
  have h := k_Bound mEx A 2 tEx At 2 (fEx b c) Af 2 [1, 4] B 2 w hm ht hf hgf hb
  rw [ex_bndN, ex_bndE] at h
  exact h

set_option maxHeartbeats 8000000 in
theorem k_works  (w : World)  : Calls Tryz.prog 11 #[] w (fun e w' => e = .returned (.bool true) ∧ Grow w w') := by
  refine enter_pure (args := []) [] Tryz.func11 rfl (by rw [Tryz.ntmps11]; simp) (by simp) ?_
  refine cj_seq ?_
  refine cj_regionG (gj_step (y_assign rfl) rfl rfl rfl (gj_nil ?_))
  refine ej_th (cj_seq (cj_region ?_))
  refine oj_call (X := Nat) (fun x => .agg #[.string sGem, .slice (some ⟨x, 0, none⟩) 1 1, .slice none 0 0]) (fun _ => []) (fun x => [litS x 1 enStr [sRound]]) Tryz.call16 rfl (fun w hp => k_gem sRound w) rfl (fun g20 => ?_)
  dsimp only [List.nil_append, List.cons_append]
  refine oj_call (X := Nat) (fun x => .agg #[.string sGem, .slice (some ⟨x, 0, none⟩) 1 1, .slice none 0 0]) (fun _ => []) (fun x => [litS x 1 enStr [sNone]]) Tryz.call16 rfl (fun w hp => k_gem sNone w) rfl (fun g21 => ?_)
  dsimp only [List.nil_append, List.cons_append]
  refine oj_buildSlice (cs := [.string sGem, .slice (some ⟨g20, 0, none⟩) 1 1, .slice none 0 0, .string sGem, .slice (some ⟨g21, 0, none⟩) 1 1, .slice none 0 0]) [.string ⟨#[]⟩, .slice none 0 0, .slice none 0 0, .string ⟨#[]⟩, .slice none 0 0, .slice none 0 0] Tryz.underlying24 Tryz.sizeOf26 Tryz.zeroValue26 rfl rfl (by kernel_rfl) (by kernel_rfl) rfl (fun b22 => ?_)
  refine oj_call (X := Nat) (fun x => .agg #[.string sRing, .slice (some ⟨x, 0, none⟩) 2 2, .slice (some ⟨b22, 0, none⟩) 2 2]) (fun _ => []) (fun x => [litS x 1 enStr [sGold, sNone]]) Tryz.call15 rfl (fun w hp => k_jewel sNone (some ⟨b22, 0, none⟩) 2 2 w) rfl (fun j23 => ?_)
  dsimp only [List.nil_append, List.cons_append]
  refine oj_alloc Tryz.zeroValue26 rfl rfl (fun b1 => ?_)
  refine oj_store rfl rfl rfl rfl Tryz.sizeOf26 rfl ?_
  refine oj_nil ?_
  refine ej_th (cj_seq ?_)
  refine cj_plan 8 (by kernel_rfl) (by kernel_rfl) ?_
  refine pl_y 1 rfl (y_loadN Tryz.isAgg26 Tryz.sizeOf26 rfl) rfl rfl rfl rfl (by kernel_rfl) ?_
  refine pl_w1 0 (by kernel_rfl) rfl rfl (pl_fire rfl rfl rfl (by kernel_rfl) ?_)
  refine oj_call (X := GrA × Nat × Nat) (fun z => .slice (some ⟨z.1.g12, 0, none⟩) 2 2) (fun _ => []) (fun z => [clF (fun i => z.2.1 ≤ i ∧ i < z.2.2) (at0 z.1.g12) (gramV z.1)]) Tryz.call17 rfl (fun w hp => k_grammar w) rfl ?_
  rintro ⟨a25, n25, m25⟩
  dsimp only [List.nil_append, List.cons_append]
  refine oj_nil ?_
  refine ej_pl (lt_y (y_loadN Tryz.isAgg26 Tryz.sizeOf26 rfl) rfl (lt_nil)) ?_
  refine pl_y 2 rfl (y_call Tryz.call6 rfl (fun w hp => ew_Print a25 w (hp_cl hp (fun i => n25 ≤ i ∧ i < m25) (at0 a25.g12) (gramV a25)) j23 b22 g20 g21 (ring_good (b := j23) (g := b22) (s := sNone) (parts := [gemV g20 sRound, gemV g21 sNone]) hp.rd (by decide) (hp.rdLit (b := b22) (sz := 3) (enc := encIt) [gemV g20 sRound, gemV g21 sNone] (fun _ => rfl) rfl (by unfold maxLen; simp)) (fun p hpp => by
    simp only [List.mem_cons, List.mem_nil_iff, or_false] at hpp
    rcases hpp with rfl | rfl
    · exact (gem_good (b := g20) (s := sRound) hp.rd (by decide))
    · exact (gem_good (b := g21) (s := sNone) hp.rd (by decide)))))) rfl rfl rfl rfl (by kernel_rfl) ?_
  refine pl_y 3 rfl (y_move rfl) rfl rfl rfl rfl (by kernel_rfl) ?_
  refine pl_y 4 rfl (y_extract rfl rfl) rfl rfl rfl rfl (by kernel_rfl) ?_
  refine pl_y 5 rfl (y_extract rfl rfl) rfl rfl rfl rfl (by kernel_rfl) ?_
  refine pl_y 6 rfl (y_assign rfl) rfl rfl rfl rfl (by kernel_rfl) ?_
  refine pl_y 7 rfl (y_assign rfl) rfl rfl rfl rfl (by kernel_rfl) ?_
  refine pl_end (by kernel_rfl) ?_
  refine ej_th (cj_seq ?_)
  refine cj_plan 10 (by kernel_rfl) (by kernel_rfl) ?_
  refine pl_y 1 rfl (y_loadN Tryz.isAgg26 Tryz.sizeOf26 rfl) rfl rfl rfl rfl (by kernel_rfl) ?_
  refine pl_w1 0 (by kernel_rfl) rfl rfl (pl_fire rfl rfl rfl (by kernel_rfl) ?_)
  refine oj_call (X := GrA × Nat × Nat) (fun z => .slice (some ⟨z.1.g12, 0, none⟩) 2 2) (fun _ => []) (fun z => [clF (fun i => z.2.1 ≤ i ∧ i < z.2.2) (at0 z.1.g12) (gramV z.1)]) Tryz.call17 rfl (fun w hp => k_grammar w) rfl ?_
  rintro ⟨a31, n31, m31⟩
  dsimp only [List.nil_append, List.cons_append]
  refine oj_nil ?_
  refine ej_pl (lt_y (y_loadN Tryz.isAgg26 Tryz.sizeOf26 rfl) rfl (lt_nil)) ?_
  refine pl_y 2 rfl (y_call Tryz.call39 rfl (fun w hp => ew_Count a31 w (hp_cl hp (fun i => n31 ≤ i ∧ i < m31) (at0 a31.g12) (gramV a31)) j23 b22 g20 g21 (ring_good (b := j23) (g := b22) (s := sNone) (parts := [gemV g20 sRound, gemV g21 sNone]) hp.rd (by decide) (hp.rdLit (b := b22) (sz := 3) (enc := encIt) [gemV g20 sRound, gemV g21 sNone] (fun _ => rfl) rfl (by unfold maxLen; simp)) (fun p hpp => by
    simp only [List.mem_cons, List.mem_nil_iff, or_false] at hpp
    rcases hpp with rfl | rfl
    · exact (gem_good (b := g20) (s := sRound) hp.rd (by decide))
    · exact (gem_good (b := g21) (s := sNone) hp.rd (by decide)))))) rfl rfl rfl rfl (by kernel_rfl) ?_
  refine pl_y 3 rfl (y_move rfl) rfl rfl rfl rfl (by kernel_rfl) ?_
  refine pl_y 4 rfl (y_extract rfl rfl) rfl rfl rfl rfl (by kernel_rfl) ?_
  refine pl_y 5 rfl (y_extract rfl rfl) rfl rfl rfl rfl (by kernel_rfl) ?_
  refine pl_y 6 rfl (y_extract rfl rfl) rfl rfl rfl rfl (by kernel_rfl) ?_
  refine pl_y 7 rfl (y_assign rfl) rfl rfl rfl rfl (by kernel_rfl) ?_
  refine pl_y 8 rfl (y_assign rfl) rfl rfl rfl rfl (by kernel_rfl) ?_
  refine pl_y 9 rfl (y_assign rfl) rfl rfl rfl rfl (by kernel_rfl) ?_
  refine pl_end (by kernel_rfl) ?_
  refine ej_th (cj_seq ?_)
  refine cj_plan 9 (by kernel_rfl) (by kernel_rfl) ?_
  refine pl_y 1 rfl (y_loadN Tryz.isAgg26 Tryz.sizeOf26 rfl) rfl rfl rfl rfl (by kernel_rfl) ?_
  refine pl_w2 0 6 (by kernel_rfl) rfl rfl (pl_fire rfl rfl rfl (by kernel_rfl) ?_) (pl_fire rfl rfl rfl (by kernel_rfl) ?_)
  · refine oj_call (X := GrA × Nat × Nat) (fun z => .slice (some ⟨z.1.g12, 0, none⟩) 2 2) (fun _ => []) (fun z => [clF (fun i => z.2.1 ≤ i ∧ i < z.2.2) (at0 z.1.g12) (gramV z.1)]) Tryz.call17 rfl (fun w hp => k_grammar w) rfl ?_
    rintro ⟨a38, n38, m38⟩
    dsimp only [List.nil_append, List.cons_append]
    refine oj_nil ?_
    refine ej_pl (lt_y (y_loadN Tryz.isAgg26 Tryz.sizeOf26 rfl) rfl (lt_nil)) ?_
    refine pl_w2 2 6 (by kernel_rfl) rfl rfl (pl_fire rfl rfl rfl (by kernel_rfl) ?_) (pl_fire rfl rfl rfl (by kernel_rfl) ?_)
    · refine oj_call (X := { z : ItemV × Nat × Nat // z.1.pl = ringS }) (fun z => .tuple #[evI z.1.1, .int .i64 0]) (fun _ => []) (fun z => [itF (fun i => z.1.2.1 ≤ i ∧ i < z.1.2.2) [z.1.1]]) Tryz.call40 rfl (fun w1 hp => by
        have h := ew_Sort a38 w1 (hp_cl hp (fun i => n38 ≤ i ∧ i < m38) (at0 a38.g12) (gramV a38)) j23 b22 g20 g21 (ring_good (b := j23) (g := b22) (s := sNone) (parts := [gemV g20 sRound, gemV g21 sNone]) hp.rd (by decide) (hp.rdLit (b := b22) (sz := 3) (enc := encIt) [gemV g20 sRound, gemV g21 sNone] (fun _ => rfl) rfl (by unfold maxLen; simp)) (fun p hpp => by
        simp only [List.mem_cons, List.mem_nil_iff, or_false] at hpp
        rcases hpp with rfl | rfl
        · exact (gem_good (b := g20) (s := sRound) hp.rd (by decide))
        · exact (gem_good (b := g21) (s := sNone) hp.rd (by decide))))
        exact h.mono fun e w2 ⟨y, he, hg, hy, hG⟩ => ⟨⟨(y, w1.heap.size, w2.heap.size), hy⟩, he, hg, by simp, by simp, fun f hf => by
          rw [List.mem_singleton.1 hf]
          exact ⟨fun z hz => by rw [List.mem_singleton.1 hz]; exact hG, fun i hi => ⟨hi.1, hi.2, by simp⟩⟩⟩) rfl ?_
      rintro ⟨⟨y, n1, n2⟩, hy⟩
      dsimp only [List.cons_append, List.nil_append] at hy ⊢
      refine oj_nil ?_
      refine ej_pl (lt_w (by kernel_rfl) (lt_nil)) ?_
      refine pl_y 3 rfl (y_move rfl) rfl rfl rfl rfl (by kernel_rfl) ?_
      refine pl_y 4 rfl (y_extract rfl rfl) rfl rfl rfl rfl (by kernel_rfl) ?_
      refine pl_y 5 rfl (y_extract rfl rfl) rfl rfl rfl rfl (by kernel_rfl) ?_
      refine pl_w1 6 (by kernel_rfl) rfl rfl (pl_fire rfl rfl rfl (by kernel_rfl) ?_)
      refine oj_alloc Tryz.zeroValue26 rfl rfl (fun b7 => ?_)
      refine oj_nil ?_
      refine ej_pl (lt_y (y_extract rfl rfl) rfl (lt_y (y_extract rfl rfl) rfl (lt_y (y_move rfl) rfl (lt_y (y_loadN Tryz.isAgg26 Tryz.sizeOf26 rfl) rfl (lt_nil))))) ?_
      refine pl_w1 7 (by kernel_rfl) rfl rfl (pl_fire rfl rfl rfl (by kernel_rfl) ?_)
      refine oj_store rfl rfl rfl rfl Tryz.sizeOf26 rfl ?_
      refine oj_nil ?_
      refine ej_pl (lt_y (y_extract rfl rfl) rfl (lt_w (by kernel_rfl) (lt_w (by kernel_rfl) (lt_w (by kernel_rfl) (lt_nil))))) ?_
      refine pl_y 8 rfl (y_assign rfl) rfl rfl rfl rfl (by kernel_rfl) ?_
      refine pl_end (by kernel_rfl) ?_
      refine ej_th (cj_seq ?_)
      refine cj_plan 8 (by kernel_rfl) (by kernel_rfl) ?_
      refine pl_y 1 rfl (y_loadN Tryz.isAgg26 Tryz.sizeOf26 rfl) rfl rfl rfl rfl (by kernel_rfl) ?_
      refine pl_w1 0 (by kernel_rfl) rfl rfl (pl_fire rfl rfl rfl (by kernel_rfl) ?_)
      refine oj_call (X := GrA × Nat × Nat) (fun z => .slice (some ⟨z.1.g12, 0, none⟩) 2 2) (fun _ => []) (fun z => [clF (fun i => z.2.1 ≤ i ∧ i < z.2.2) (at0 z.1.g12) (gramV z.1)]) Tryz.call17 rfl (fun w hp => k_grammar w) rfl ?_
      rintro ⟨a44, n44, m44⟩
      dsimp only [List.nil_append, List.cons_append]
      refine oj_nil ?_
      refine ej_pl (lt_y (y_loadN Tryz.isAgg26 Tryz.sizeOf26 rfl) rfl (lt_nil)) ?_
      refine pl_y 2 rfl (y_call Tryz.call6 rfl (fun w hp => ew_Print2 a44 w (hp_cl hp (fun i => n44 ≤ i ∧ i < m44) (at0 a44.g12) (gramV a44)) y (hp_it hp (fun i => n1 ≤ i ∧ i < n2) y) hy)) rfl rfl rfl rfl (by kernel_rfl) ?_
      refine pl_y 3 rfl (y_move rfl) rfl rfl rfl rfl (by kernel_rfl) ?_
      refine pl_y 4 rfl (y_extract rfl rfl) rfl rfl rfl rfl (by kernel_rfl) ?_
      refine pl_y 5 rfl (y_extract rfl rfl) rfl rfl rfl rfl (by kernel_rfl) ?_
      refine pl_y 6 rfl (y_assign rfl) rfl rfl rfl rfl (by kernel_rfl) ?_
      refine pl_y 7 rfl (y_assign rfl) rfl rfl rfl rfl (by kernel_rfl) ?_
      refine pl_end (by kernel_rfl) ?_
      refine ej_th (cj_seq (cj_seq (cj_region ?_)))
      refine oj_step (y_move rfl) rfl rfl rfl ?_
      refine oj_step (y_neq rfl rfl) rfl rfl rfl ?_
      refine oj_step (y_move rfl) rfl rfl rfl ?_
      refine oj_yes rfl rfl rfl ?_
      refine oj_step (y_move rfl) rfl rfl rfl ?_
      refine oj_yes rfl rfl rfl ?_
      refine oj_step (y_neq rfl rfl) rfl rfl rfl ?_
      refine oj_step (y_pick rfl rfl rfl) rfl rfl rfl ?_
      refine oj_step (y_move rfl) rfl rfl rfl ?_
      refine oj_yes rfl rfl rfl ?_
      refine oj_step (y_move rfl) rfl rfl rfl ?_
      refine oj_yes rfl rfl rfl ?_
      refine oj_step (y_neq rfl rfl) rfl rfl rfl ?_
      refine oj_step (y_pick rfl rfl rfl) rfl rfl rfl ?_
      refine oj_step (y_move rfl) rfl rfl rfl ?_
      refine oj_yes rfl rfl rfl ?_
      refine oj_step (y_move rfl) rfl rfl rfl ?_
      refine oj_yes rfl rfl rfl ?_
      refine oj_step (y_neq rfl rfl) rfl rfl rfl ?_
      refine oj_step (y_pick rfl rfl rfl) rfl rfl rfl ?_
      refine oj_step (y_move rfl) rfl rfl rfl ?_
      refine oj_yes rfl rfl rfl ?_
      refine oj_step (y_move rfl) rfl rfl rfl ?_
      refine oj_yes rfl rfl rfl ?_
      refine oj_step (y_neqS rfl rfl) rfl rfl rfl ?_
      refine oj_step (y_pick rfl rfl rfl) rfl rfl rfl ?_
      refine oj_step (y_move rfl) rfl rfl rfl ?_
      refine oj_yes rfl rfl rfl ?_
      refine oj_step (y_move rfl) rfl rfl rfl ?_
      refine oj_yes rfl rfl rfl ?_
      refine oj_step (y_neq rfl rfl) rfl rfl rfl ?_
      refine oj_step (y_pick rfl rfl rfl) rfl rfl rfl ?_
      refine oj_step (y_move rfl) rfl rfl rfl ?_
      refine oj_yes rfl rfl rfl ?_
      refine oj_step (y_move rfl) rfl rfl rfl ?_
      refine oj_yes rfl rfl rfl ?_
      refine oj_step (y_neq rfl rfl) rfl rfl rfl ?_
      refine oj_step (y_pick rfl rfl rfl) rfl rfl rfl ?_
      refine oj_step (y_move rfl) rfl rfl rfl ?_
      refine oj_yes rfl rfl rfl ?_
      refine oj_step (y_move rfl) rfl rfl rfl ?_
      refine oj_yes rfl rfl rfl ?_
      refine oj_step (y_neqS rfl rfl) rfl rfl rfl ?_
      refine oj_step (y_pick rfl rfl rfl) rfl rfl rfl ?_
      refine oj_nil ?_
      refine ej_th ?_
      refine cj_cond rfl (fun h78 => ?_) (fun h78 => ?_)
      · exact absurd h78 (by decide)
      · have h78b := h78
        try simp only [sxb] at h78
        refine cj_skip (ej_th (cj_seq ?_))
        refine cj_plan 12 (by kernel_rfl) (by kernel_rfl) ?_
        refine pl_y 1 rfl (y_loadN Tryz.isAgg26 Tryz.sizeOf26 rfl) rfl rfl rfl rfl (by kernel_rfl) ?_
        refine pl_w1 0 (by kernel_rfl) rfl rfl (pl_fire rfl rfl rfl (by kernel_rfl) ?_)
        refine oj_call (X := GrA × Nat × Nat) (fun z => .slice (some ⟨z.1.g12, 0, none⟩) 2 2) (fun _ => []) (fun z => [clF (fun i => z.2.1 ≤ i ∧ i < z.2.2) (at0 z.1.g12) (gramV z.1)]) Tryz.call17 rfl (fun w hp => k_grammar w) rfl ?_
        rintro ⟨a80, n80, m80⟩
        dsimp only [List.nil_append, List.cons_append]
        refine oj_nil ?_
        refine ej_pl (lt_y (y_loadN Tryz.isAgg26 Tryz.sizeOf26 rfl) rfl (lt_nil)) ?_
        refine pl_w1 2 (by kernel_rfl) rfl rfl (pl_fire rfl rfl rfl (by kernel_rfl) ?_)
        refine oj_call (X := Nat) (fun x => .agg #[.string sGem, .slice (some ⟨x, 0, none⟩) 1 1, .slice none 0 0]) (fun _ => []) (fun x => [litS x 1 enStr [sOval]]) Tryz.call16 rfl (fun w hp => k_gem sOval w) rfl (fun g82 => ?_)
        dsimp only [List.nil_append, List.cons_append]
        refine oj_nil ?_
        refine ej_pl (lt_y (y_loadN Tryz.isAgg26 Tryz.sizeOf26 rfl) rfl (lt_nil)) ?_
        refine pl_w1 3 (by kernel_rfl) rfl rfl (pl_fire rfl rfl rfl (by kernel_rfl) ?_)
        refine oj_call (X := Nat) (fun x => .agg #[.string sGem, .slice (some ⟨x, 0, none⟩) 1 1, .slice none 0 0]) (fun _ => []) (fun x => [litS x 1 enStr [sRound]]) Tryz.call16 rfl (fun w hp => k_gem sRound w) rfl (fun g83 => ?_)
        dsimp only [List.nil_append, List.cons_append]
        refine oj_nil ?_
        refine ej_pl (lt_y (y_loadN Tryz.isAgg26 Tryz.sizeOf26 rfl) rfl (lt_nil)) ?_
        refine pl_w1 4 (by kernel_rfl) rfl rfl (pl_fire rfl rfl rfl (by kernel_rfl) ?_)
        refine oj_buildSlice (cs := [.string sGem, .slice (some ⟨g82, 0, none⟩) 1 1, .slice none 0 0, .string sGem, .slice (some ⟨g83, 0, none⟩) 1 1, .slice none 0 0]) [.string ⟨#[]⟩, .slice none 0 0, .slice none 0 0, .string ⟨#[]⟩, .slice none 0 0, .slice none 0 0] Tryz.underlying24 Tryz.sizeOf26 Tryz.zeroValue26 rfl rfl (by kernel_rfl) (by kernel_rfl) rfl (fun b84 => ?_)
        refine oj_nil ?_
        refine ej_pl (lt_y (y_loadN Tryz.isAgg26 Tryz.sizeOf26 rfl) rfl (lt_nil)) ?_
        refine pl_w1 5 (by kernel_rfl) rfl rfl (pl_fire rfl rfl rfl (by kernel_rfl) ?_)
        refine oj_call (X := Nat) (fun x => .agg #[.string sRing, .slice (some ⟨x, 0, none⟩) 2 2, .slice (some ⟨b84, 0, none⟩) 2 2]) (fun _ => []) (fun x => [litS x 1 enStr [sGold, sSmall]]) Tryz.call15 rfl (fun w hp => k_jewel sSmall (some ⟨b84, 0, none⟩) 2 2 w) rfl (fun j85 => ?_)
        dsimp only [List.nil_append, List.cons_append]
        refine oj_nil ?_
        refine ej_pl (lt_y (y_loadN Tryz.isAgg26 Tryz.sizeOf26 rfl) rfl (lt_nil)) ?_
        refine pl_y 6 rfl (y_call Tryz.call41 rfl (fun w hp => ew_Cov1 a80 w (hp_cl hp (fun i => n80 ≤ i ∧ i < m80) (at0 a80.g12) (gramV a80)) j23 b22 g20 g21 (ring_good (b := j23) (g := b22) (s := sNone) (parts := [gemV g20 sRound, gemV g21 sNone]) hp.rd (by decide) (hp.rdLit (b := b22) (sz := 3) (enc := encIt) [gemV g20 sRound, gemV g21 sNone] (fun _ => rfl) rfl (by unfold maxLen; simp)) (fun p hpp => by
          simp only [List.mem_cons, List.mem_nil_iff, or_false] at hpp
          rcases hpp with rfl | rfl
          · exact (gem_good (b := g20) (s := sRound) hp.rd (by decide))
          · exact (gem_good (b := g21) (s := sNone) hp.rd (by decide)))) j85 b84 g82 g83 (ring_good (b := j85) (g := b84) (s := sSmall) (parts := [gemV g82 sOval, gemV g83 sRound]) hp.rd (by decide) (hp.rdLit (b := b84) (sz := 3) (enc := encIt) [gemV g82 sOval, gemV g83 sRound] (fun _ => rfl) rfl (by unfold maxLen; simp)) (fun p hpp => by
          simp only [List.mem_cons, List.mem_nil_iff, or_false] at hpp
          rcases hpp with rfl | rfl
          · exact (gem_good (b := g82) (s := sOval) hp.rd (by decide))
          · exact (gem_good (b := g83) (s := sRound) hp.rd (by decide)))))) rfl rfl rfl rfl (by kernel_rfl) ?_
        refine pl_y 7 rfl (y_move rfl) rfl rfl rfl rfl (by kernel_rfl) ?_
        refine pl_y 8 rfl (y_extract rfl rfl) rfl rfl rfl rfl (by kernel_rfl) ?_
        refine pl_y 9 rfl (y_extract rfl rfl) rfl rfl rfl rfl (by kernel_rfl) ?_
        refine pl_y 10 rfl (y_assign rfl) rfl rfl rfl rfl (by kernel_rfl) ?_
        refine pl_y 11 rfl (y_assign rfl) rfl rfl rfl rfl (by kernel_rfl) ?_
        refine pl_end (by kernel_rfl) ?_
        refine ej_th (cj_seq ?_)
        refine cj_plan 11 (by kernel_rfl) (by kernel_rfl) ?_
        refine pl_y 1 rfl (y_loadN Tryz.isAgg26 Tryz.sizeOf26 rfl) rfl rfl rfl rfl (by kernel_rfl) ?_
        refine pl_w1 0 (by kernel_rfl) rfl rfl (pl_fire rfl rfl rfl (by kernel_rfl) ?_)
        refine oj_call (X := GrA × Nat × Nat) (fun z => .slice (some ⟨z.1.g12, 0, none⟩) 2 2) (fun _ => []) (fun z => [clF (fun i => z.2.1 ≤ i ∧ i < z.2.2) (at0 z.1.g12) (gramV z.1)]) Tryz.call17 rfl (fun w hp => k_grammar w) rfl ?_
        rintro ⟨a90, n90, m90⟩
        dsimp only [List.nil_append, List.cons_append]
        refine oj_nil ?_
        refine ej_pl (lt_y (y_loadN Tryz.isAgg26 Tryz.sizeOf26 rfl) rfl (lt_nil)) ?_
        refine pl_w1 2 (by kernel_rfl) rfl rfl (pl_fire rfl rfl rfl (by kernel_rfl) ?_)
        refine oj_call (X := Nat) (fun x => .agg #[.string sGem, .slice (some ⟨x, 0, none⟩) 1 1, .slice none 0 0]) (fun _ => []) (fun x => [litS x 1 enStr [sNone]]) Tryz.call16 rfl (fun w hp => k_gem sNone w) rfl (fun g92 => ?_)
        dsimp only [List.nil_append, List.cons_append]
        refine oj_nil ?_
        refine ej_pl (lt_y (y_loadN Tryz.isAgg26 Tryz.sizeOf26 rfl) rfl (lt_nil)) ?_
        refine pl_w1 3 (by kernel_rfl) rfl rfl (pl_fire rfl rfl rfl (by kernel_rfl) ?_)
        refine oj_buildSlice (cs := [.string sGem, .slice (some ⟨g92, 0, none⟩) 1 1, .slice none 0 0]) [.string ⟨#[]⟩, .slice none 0 0, .slice none 0 0] Tryz.underlying24 Tryz.sizeOf26 Tryz.zeroValue26 rfl rfl (by kernel_rfl) (by kernel_rfl) rfl (fun b93 => ?_)
        refine oj_nil ?_
        refine ej_pl (lt_y (y_loadN Tryz.isAgg26 Tryz.sizeOf26 rfl) rfl (lt_nil)) ?_
        refine pl_w1 4 (by kernel_rfl) rfl rfl (pl_fire rfl rfl rfl (by kernel_rfl) ?_)
        refine oj_call (X := Nat) (fun x => .agg #[.string sRing, .slice (some ⟨x, 0, none⟩) 2 2, .slice (some ⟨b93, 0, none⟩) 1 1]) (fun _ => []) (fun x => [litS x 1 enStr [sGold, sNone]]) Tryz.call15 rfl (fun w hp => k_jewel sNone (some ⟨b93, 0, none⟩) 1 1 w) rfl (fun j94 => ?_)
        dsimp only [List.nil_append, List.cons_append]
        refine oj_nil ?_
        refine ej_pl (lt_y (y_loadN Tryz.isAgg26 Tryz.sizeOf26 rfl) rfl (lt_nil)) ?_
        refine pl_y 5 rfl (y_call Tryz.call41 rfl (fun w hp => ew_Cov2 a90 w (hp_cl hp (fun i => n90 ≤ i ∧ i < m90) (at0 a90.g12) (gramV a90)) j23 b22 g20 g21 (ring_good (b := j23) (g := b22) (s := sNone) (parts := [gemV g20 sRound, gemV g21 sNone]) hp.rd (by decide) (hp.rdLit (b := b22) (sz := 3) (enc := encIt) [gemV g20 sRound, gemV g21 sNone] (fun _ => rfl) rfl (by unfold maxLen; simp)) (fun p hpp => by
          simp only [List.mem_cons, List.mem_nil_iff, or_false] at hpp
          rcases hpp with rfl | rfl
          · exact (gem_good (b := g20) (s := sRound) hp.rd (by decide))
          · exact (gem_good (b := g21) (s := sNone) hp.rd (by decide)))) j94 b93 g92 (ring_good (b := j94) (g := b93) (s := sNone) (parts := [gemV g92 sNone]) hp.rd (by decide) (hp.rdLit (b := b93) (sz := 3) (enc := encIt) [gemV g92 sNone] (fun _ => rfl) rfl (by unfold maxLen; simp)) (fun p hpp => by
          simp only [List.mem_cons, List.mem_nil_iff, or_false] at hpp
          rcases hpp with rfl
          · exact (gem_good (b := g92) (s := sNone) hp.rd (by decide)))))) rfl rfl rfl rfl (by kernel_rfl) ?_
        refine pl_y 6 rfl (y_move rfl) rfl rfl rfl rfl (by kernel_rfl) ?_
        refine pl_y 7 rfl (y_extract rfl rfl) rfl rfl rfl rfl (by kernel_rfl) ?_
        refine pl_y 8 rfl (y_extract rfl rfl) rfl rfl rfl rfl (by kernel_rfl) ?_
        refine pl_y 9 rfl (y_assign rfl) rfl rfl rfl rfl (by kernel_rfl) ?_
        refine pl_y 10 rfl (y_assign rfl) rfl rfl rfl rfl (by kernel_rfl) ?_
        refine pl_end (by kernel_rfl) ?_
        refine ej_th (cj_seq (cj_region ?_))
        refine oj_call (X := Nat × Nat × Nat × Nat × Nat) (fun z => .agg #[.slice (some ⟨z.1, 0, none⟩) 2 2, .slice (some ⟨z.2.1, 0, none⟩) 2 2, .slice (some ⟨z.2.2.1, 0, none⟩) 2 2]) (fun _ => []) (fun z => [litS z.1 2 encMe mEx, litS z.2.1 1 enInt tEx, litS z.2.2.1 1 encFk (fEx z.2.2.2.1 z.2.2.2.2), litS z.2.2.2.1 2 encSp [⟨90, 93⟩, ⟨900, 1100⟩], litS z.2.2.2.2 2 encSp [⟨95, 105⟩, ⟨1016, 1030⟩]]) Tryz.call19 rfl (fun w hp => k_skillEx w) rfl ?_
        rintro ⟨mm, mt, mf, m1, m2⟩
        dsimp only [List.nil_append, List.cons_append]
        refine oj_alloc Tryz.zeroValue52 rfl rfl (fun b13 => ?_)
        refine oj_store rfl rfl rfl rfl Tryz.sizeOf52 rfl ?_
        refine oj_nil ?_
        refine ej_th (cj_seq (cj_region ?_))
        refine oj_step (y_fa0 fa52_0 rfl) rfl rfl rfl ?_
        refine oj_step (y_load1 Tryz.isAgg48 rfl rfl) rfl rfl rfl ?_
        refine oj_buildSlice (cs := [.int .i64 100, .int .i64 1000]) [.int .i64 0, .int .i64 0] Tryz.underlying49 Tryz.sizeOf3 Tryz.zeroValue3 rfl rfl (by kernel_rfl) (by kernel_rfl) rfl (fun b102 => ?_)
        refine oj_buildSlice (cs := [.int .i64 103, .int .i64 (-1)]) [.int .i64 0, .int .i64 0] Tryz.underlying49 Tryz.sizeOf3 Tryz.zeroValue3 rfl rfl (by kernel_rfl) (by kernel_rfl) rfl (fun b103 => ?_)
        refine oj_buildSlice (cs := [.slice (some ⟨b102, 0, none⟩) 2 2, .slice (some ⟨b103, 0, none⟩) 2 2]) [.slice none 0 0, .slice none 0 0] Tryz.underlying57 Tryz.sizeOf49 Tryz.zeroValue49 rfl rfl (by kernel_rfl) (by kernel_rfl) rfl (fun b104 => ?_)
        refine oj_callS (fun A c => .tuple #[.slice A ([⟨101, 102⟩, ⟨995, 1005⟩] : List Span).length c, .int .i64 0]) 2 encSp ([⟨101, 102⟩, ⟨995, 1005⟩] : List Span) Tryz.call20 rfl (fun w hp => ew_Narrow (some ⟨mm, 0, none⟩) (some ⟨b104, 0, none⟩) b102 b103 w hp.rd (hp.rdLit (b := b104) (sz := 1) (enc := encLs) (rEx b102 b103) (fun _ => rfl) rfl (by unfold maxLen; simp)) (fun r hr => by
          simp only [List.mem_cons, List.mem_nil_iff, or_false] at hr
          rcases hr with rfl | rfl
          · exact (hp.rdLit (b := b102) (sz := 1) (enc := enInt) [100, 1000] (fun _ => rfl) rfl (by unfold maxLen; simp))
          · exact (hp.rdLit (b := b103) (sz := 1) (enc := enInt) [103, -1] (fun _ => rfl) rfl (by unfold maxLen; simp)))) rfl (fun A105 c105 fp105 hfp105 => ?_)
        refine oj_step (y_move rfl) rfl rfl rfl ?_
        refine oj_step (y_extract rfl rfl) rfl rfl rfl ?_
        refine oj_step (y_extract rfl rfl) rfl rfl rfl ?_
        refine oj_step (y_assign rfl) rfl rfl rfl ?_
        refine oj_step (y_assign rfl) rfl rfl rfl ?_
        refine oj_nil ?_
        refine ej_th (cj_seq (cj_region ?_))
        refine oj_step (y_fa0 fa52_0 rfl) rfl rfl rfl ?_
        refine oj_step (y_load1 Tryz.isAgg48 rfl rfl) rfl rfl rfl ?_
        refine oj_step (y_fa fa52_1 rfl) rfl rfl rfl ?_
        refine oj_step (y_load1 Tryz.isAgg49 rfl rfl) rfl rfl rfl ?_
        refine oj_step (y_fa fa52_2 rfl) rfl rfl rfl ?_
        refine oj_step (y_load1 Tryz.isAgg50 rfl rfl) rfl rfl rfl ?_
        refine oj_callS (fun A c => .tuple #[.slice A ([0, 1] : List Int).length c, .int .i64 5, .int .i64 0]) 1 enInt ([0, 1] : List Int) Tryz.call24 rfl (fun w hp => ew_Least (some ⟨mm, 0, none⟩) (some ⟨mt, 0, none⟩) (some ⟨mf, 0, none⟩) m1 m2 w hp.rd hp.rd hp.rd (fun f hff => by
          simp only [List.mem_cons, List.mem_nil_iff, or_false] at hff
          rcases hff with rfl | rfl
          · exact hp.rd
          · exact hp.rd)) rfl (fun A115 c115 fp115 hfp115 => ?_)
        refine oj_step (y_move rfl) rfl rfl rfl ?_
        refine oj_step (y_extract rfl rfl) rfl rfl rfl ?_
        refine oj_step (y_extract rfl rfl) rfl rfl rfl ?_
        refine oj_step (y_extract rfl rfl) rfl rfl rfl ?_
        refine oj_step (y_assign rfl) rfl rfl rfl ?_
        refine oj_step (y_assign rfl) rfl rfl rfl ?_
        refine oj_step (y_assign rfl) rfl rfl rfl ?_
        refine oj_nil ?_
        refine ej_th (cj_seq (cj_seq (cj_region ?_)))
        refine oj_step (y_move rfl) rfl rfl rfl ?_
        refine oj_step (y_neq rfl rfl) rfl rfl rfl ?_
        refine oj_step (y_move rfl) rfl rfl rfl ?_
        refine oj_yes rfl rfl rfl ?_
        refine oj_step (y_move rfl) rfl rfl rfl ?_
        refine oj_yes rfl rfl rfl ?_
        refine oj_step (y_neq rfl rfl) rfl rfl rfl ?_
        refine oj_step (y_pick rfl rfl rfl) rfl rfl rfl ?_
        refine oj_step (y_move rfl) rfl rfl rfl ?_
        refine oj_yes rfl rfl rfl ?_
        refine oj_step (y_move rfl) rfl rfl rfl ?_
        refine oj_yes rfl rfl rfl ?_
        refine oj_step (y_neq rfl rfl) rfl rfl rfl ?_
        refine oj_step (y_pick rfl rfl rfl) rfl rfl rfl ?_
        refine oj_step (y_move rfl) rfl rfl rfl ?_
        refine oj_yes rfl rfl rfl ?_
        refine oj_step (y_move rfl) rfl rfl rfl ?_
        refine oj_yes rfl rfl rfl ?_
        refine oj_step (y_neq rfl rfl) rfl rfl rfl ?_
        refine oj_step (y_pick rfl rfl rfl) rfl rfl rfl ?_
        refine oj_step (y_move rfl) rfl rfl rfl ?_
        refine oj_yes rfl rfl rfl ?_
        refine oj_step (y_move rfl) rfl rfl rfl ?_
        refine oj_yes rfl rfl rfl ?_
        refine oj_step (y_not rfl) rfl rfl rfl ?_
        refine oj_step (y_pick rfl rfl rfl) rfl rfl rfl ?_
        refine oj_step (y_move rfl) rfl rfl rfl ?_
        refine oj_yes rfl rfl rfl ?_
        refine oj_step (y_move rfl) rfl rfl rfl ?_
        refine oj_step (y_pick rfl rfl rfl) rfl rfl rfl ?_
        refine oj_step (y_move rfl) rfl rfl rfl ?_
        refine oj_yes rfl rfl rfl ?_
        refine oj_step (y_move rfl) rfl rfl rfl ?_
        refine oj_yes rfl rfl rfl ?_
        refine oj_step (y_build (cs := [.int .i64 101, .int .i64 102]) st70 rfl (by kernel_rfl)) rfl rfl rfl ?_
        refine oj_yes rfl rfl rfl ?_
        refine oj_step (y_build (cs := [.int .i64 995, .int .i64 1005]) st70 rfl (by kernel_rfl)) rfl rfl rfl ?_
        refine oj_yes rfl rfl rfl ?_
        refine oj_buildSlice (cs := [.int .i64 101, .int .i64 102, .int .i64 995, .int .i64 1005]) [.int .i64 0, .int .i64 0, .int .i64 0, .int .i64 0] Tryz.underlying54 Tryz.sizeOf70 Tryz.zeroValue70 rfl rfl (by kernel_rfl) (by kernel_rfl) rfl (fun b144 => ?_)
        refine oj_yes rfl rfl rfl ?_
        refine oj_step (y_call Tryz.call42 rfl (fun w hp => k_SameSp ([⟨101, 102⟩, ⟨995, 1005⟩] : List Span) ([⟨101, 102⟩, ⟨995, 1005⟩] : List Span) A105 (some ⟨b144, 0, none⟩) c105 2 w hp.rd (hp.rdLit (b := b144) (sz := 2) (enc := encSp) ([⟨101, 102⟩, ⟨995, 1005⟩] : List Span) (fun _ => rfl) rfl (by unfold maxLen; simp)))) rfl rfl rfl ?_
        refine oj_yes rfl rfl rfl ?_
        refine oj_step (y_not rfl) rfl rfl rfl ?_
        refine oj_step (y_pick rfl rfl rfl) rfl rfl rfl ?_
        refine oj_step (y_move rfl) rfl rfl rfl ?_
        refine oj_yes rfl rfl rfl ?_
        refine oj_step (y_move rfl) rfl rfl rfl ?_
        refine oj_yes rfl rfl rfl ?_
        refine oj_buildSlice (cs := [.int .i64 0, .int .i64 1]) [.int .i64 0, .int .i64 0] Tryz.underlying49 Tryz.sizeOf3 Tryz.zeroValue3 rfl rfl (by kernel_rfl) (by kernel_rfl) rfl (fun b150 => ?_)
        refine oj_yes rfl rfl rfl ?_
        refine oj_step (y_call Tryz.call26 rfl (fun w hp => k_Same ([0, 1] : List Int) ([0, 1] : List Int) A115 (some ⟨b150, 0, none⟩) c115 2 w hp.rd (hp.rdLit (b := b150) (sz := 1) (enc := enInt) ([0, 1] : List Int) (fun _ => rfl) rfl (by unfold maxLen; simp)))) rfl rfl rfl ?_
        refine oj_yes rfl rfl rfl ?_
        refine oj_step (y_not rfl) rfl rfl rfl ?_
        refine oj_step (y_pick rfl rfl rfl) rfl rfl rfl ?_
        refine oj_step (y_move rfl) rfl rfl rfl ?_
        refine oj_yes rfl rfl rfl ?_
        refine oj_step (y_move rfl) rfl rfl rfl ?_
        refine oj_yes rfl rfl rfl ?_
        refine oj_step (y_neq rfl rfl) rfl rfl rfl ?_
        refine oj_step (y_pick rfl rfl rfl) rfl rfl rfl ?_
        refine oj_nil ?_
        refine ej_th ?_
        refine cj_cond rfl (fun h157 => ?_) (fun h157 => ?_)
        · exact absurd h157 (by decide)
        · have h157b := h157
          try simp only [sxb] at h157
          refine cj_skip (ej_th (cj_seq ?_))
          refine cj_plan 14 (by kernel_rfl) (by kernel_rfl) ?_
          refine pl_y 0 rfl (y_fa0 fa52_0 rfl) rfl rfl rfl rfl (by kernel_rfl) ?_
          refine pl_y 1 rfl (y_load1 Tryz.isAgg48 rfl rfl) rfl rfl rfl rfl (by kernel_rfl) ?_
          refine pl_y 2 rfl (y_fa fa52_1 rfl) rfl rfl rfl rfl (by kernel_rfl) ?_
          refine pl_y 3 rfl (y_load1 Tryz.isAgg49 rfl rfl) rfl rfl rfl rfl (by kernel_rfl) ?_
          refine pl_y 4 rfl (y_fa fa52_2 rfl) rfl rfl rfl rfl (by kernel_rfl) ?_
          refine pl_y 5 rfl (y_load1 Tryz.isAgg50 rfl rfl) rfl rfl rfl rfl (by kernel_rfl) ?_
          refine pl_y 6 rfl (y_ixR (reads_sl (xs := fEx m1 m2) (enc := encFk) (sz := 1)) Tryz.underlying50 Tryz.sizeOf63 rfl rfl ⟨by decide, show (0 : Int) < ((2 : Nat) : Int) by decide⟩) rfl rfl rfl rfl (by kernel_rfl) ?_
          refine pl_y 7 rfl (y_ldW (reads_sl) Tryz.isAgg63 Tryz.sizeOf63 rfl (rfl) (fun _ => rfl)) rfl rfl rfl rfl (by kernel_rfl) ?_
          refine pl_w1 8 (by kernel_rfl) rfl rfl (pl_fire rfl rfl rfl (by kernel_rfl) ?_)
          refine oj_callS (fun A c => .tuple #[.slice A ([0] : List Int).length c, .int .i64 0]) 1 enInt ([0] : List Int) Tryz.call22 rfl (fun w hp => ew_Finds (some ⟨mm, 0, none⟩) (some ⟨mt, 0, none⟩) m1 w hp.rd hp.rd hp.rd) rfl (fun A167 c167 fp167 hfp167 => ?_)
          refine oj_nil ?_
          refine ej_pl (lt_w (by kernel_rfl) (lt_y (y_ixR (reads_sl (xs := fEx m1 m2) (enc := encFk) (sz := 1)) Tryz.underlying50 Tryz.sizeOf63 rfl rfl ⟨by decide, show (0 : Int) < ((2 : Nat) : Int) by decide⟩) rfl (lt_y (y_load1 Tryz.isAgg50 rfl rfl) rfl (lt_y (y_fa fa52_2 rfl) rfl (lt_w (by kernel_rfl) (lt_y (y_fa fa52_1 rfl) rfl (lt_w (by kernel_rfl) (lt_y (y_fa0 fa52_0 rfl) rfl (lt_nil))))))))) ?_
          refine pl_y 9 rfl (y_move rfl) rfl rfl rfl rfl (by kernel_rfl) ?_
          refine pl_y 10 rfl (y_extract rfl rfl) rfl rfl rfl rfl (by kernel_rfl) ?_
          refine pl_y 11 rfl (y_extract rfl rfl) rfl rfl rfl rfl (by kernel_rfl) ?_
          refine pl_y 12 rfl (y_assign rfl) rfl rfl rfl rfl (by kernel_rfl) ?_
          refine pl_y 13 rfl (y_assign rfl) rfl rfl rfl rfl (by kernel_rfl) ?_
          refine pl_end (by kernel_rfl) ?_
          refine ej_th (cj_seq (cj_region ?_))
          refine oj_step (y_fa0 fa52_0 rfl) rfl rfl rfl ?_
          refine oj_step (y_load1 Tryz.isAgg48 rfl rfl) rfl rfl rfl ?_
          refine oj_step (y_fa fa52_1 rfl) rfl rfl rfl ?_
          refine oj_step (y_load1 Tryz.isAgg49 rfl rfl) rfl rfl rfl ?_
          refine oj_buildSlice (cs := [.int .i64 104, .int .i64 1010]) [.int .i64 0, .int .i64 0] Tryz.underlying49 Tryz.sizeOf3 Tryz.zeroValue3 rfl rfl (by kernel_rfl) (by kernel_rfl) rfl (fun b175 => ?_)
          refine oj_step (y_call Tryz.call21 rfl (fun w hp => ew_Agree (some ⟨mm, 0, none⟩) (some ⟨mt, 0, none⟩) (some ⟨b175, 0, none⟩) w hp.rd hp.rd (hp.rdLit (b := b175) (sz := 1) (enc := enInt) [104, 1010] (fun _ => rfl) rfl (by unfold maxLen; simp)))) rfl rfl rfl ?_
          refine oj_step (y_move rfl) rfl rfl rfl ?_
          refine oj_step (y_extract rfl rfl) rfl rfl rfl ?_
          refine oj_step (y_extract rfl rfl) rfl rfl rfl ?_
          refine oj_step (y_assign rfl) rfl rfl rfl ?_
          refine oj_step (y_assign rfl) rfl rfl rfl ?_
          refine oj_nil ?_
          refine ej_th (cj_seq (cj_region ?_))
          refine oj_step (y_fa0 fa52_0 rfl) rfl rfl rfl ?_
          refine oj_step (y_load1 Tryz.isAgg48 rfl rfl) rfl rfl rfl ?_
          refine oj_step (y_fa fa52_1 rfl) rfl rfl rfl ?_
          refine oj_step (y_load1 Tryz.isAgg49 rfl rfl) rfl rfl rfl ?_
          refine oj_step (y_fa fa52_2 rfl) rfl rfl rfl ?_
          refine oj_step (y_load1 Tryz.isAgg50 rfl rfl) rfl rfl rfl ?_
          refine oj_buildSlice (cs := [.int .i64 1, .int .i64 4]) [.int .i64 0, .int .i64 0] Tryz.underlying49 Tryz.sizeOf3 Tryz.zeroValue3 rfl rfl (by kernel_rfl) (by kernel_rfl) rfl (fun b186 => ?_)
          refine oj_step (y_call Tryz.call25 rfl (fun w hp => ew_Bound (some ⟨mm, 0, none⟩) (some ⟨mt, 0, none⟩) (some ⟨mf, 0, none⟩) (some ⟨b186, 0, none⟩) m1 m2 w hp.rd hp.rd hp.rd (fun f hff => by
            simp only [List.mem_cons, List.mem_nil_iff, or_false] at hff
            rcases hff with rfl | rfl
            · exact hp.rd
            · exact hp.rd) (hp.rdLit (b := b186) (sz := 1) (enc := enInt) [1, 4] (fun _ => rfl) rfl (by unfold maxLen; simp)))) rfl rfl rfl ?_
          refine oj_step (y_move rfl) rfl rfl rfl ?_
          refine oj_step (y_extract rfl rfl) rfl rfl rfl ?_
          refine oj_step (y_extract rfl rfl) rfl rfl rfl ?_
          refine oj_step (y_assign rfl) rfl rfl rfl ?_
          refine oj_step (y_assign rfl) rfl rfl rfl ?_
          refine oj_nil ?_
          refine ej_th (cj_seq (cj_region ?_))
          refine oj_step (y_move rfl) rfl rfl rfl ?_
          refine oj_step (y_eql rfl rfl) rfl rfl rfl ?_
          refine oj_step (y_move rfl) rfl rfl rfl ?_
          refine oj_yes rfl rfl rfl ?_
          refine oj_step (y_move rfl) rfl rfl rfl ?_
          refine oj_yes rfl rfl rfl ?_
          refine oj_step (y_eql rfl rfl) rfl rfl rfl ?_
          refine oj_step (y_pick rfl rfl rfl) rfl rfl rfl ?_
          refine oj_step (y_move rfl) rfl rfl rfl ?_
          refine oj_yes rfl rfl rfl ?_
          refine oj_step (y_move rfl) rfl rfl rfl ?_
          refine oj_yes rfl rfl rfl ?_
          refine oj_step (y_eql rfl rfl) rfl rfl rfl ?_
          refine oj_step (y_pick rfl rfl rfl) rfl rfl rfl ?_
          refine oj_step (y_move rfl) rfl rfl rfl ?_
          refine oj_yes rfl rfl rfl ?_
          refine oj_step (y_move rfl) rfl rfl rfl ?_
          refine oj_yes rfl rfl rfl ?_
          refine oj_buildSlice (cs := [.int .i64 0]) [.int .i64 0] Tryz.underlying49 Tryz.sizeOf3 Tryz.zeroValue3 rfl rfl (by kernel_rfl) (by kernel_rfl) rfl (fun b202 => ?_)
          refine oj_yes rfl rfl rfl ?_
          refine oj_step (y_call Tryz.call26 rfl (fun w hp => k_Same ([0] : List Int) ([0] : List Int) A167 (some ⟨b202, 0, none⟩) c167 1 w hp.rd (hp.rdLit (b := b202) (sz := 1) (enc := enInt) ([0] : List Int) (fun _ => rfl) rfl (by unfold maxLen; simp)))) rfl rfl rfl ?_
          refine oj_step (y_pick rfl rfl rfl) rfl rfl rfl ?_
          refine oj_step (y_move rfl) rfl rfl rfl ?_
          refine oj_yes rfl rfl rfl ?_
          refine oj_step (y_move rfl) rfl rfl rfl ?_
          refine oj_step (y_pick rfl rfl rfl) rfl rfl rfl ?_
          refine oj_step (y_move rfl) rfl rfl rfl ?_
          refine oj_yes rfl rfl rfl ?_
          refine oj_step (y_move rfl) rfl rfl rfl ?_
          refine oj_yes rfl rfl rfl ?_
          refine oj_step (y_eql rfl rfl) rfl rfl rfl ?_
          refine oj_step (y_pick rfl rfl rfl) rfl rfl rfl ?_
          refine oj_step (y_assign rfl) rfl rfl rfl ?_
          refine oj_nil ?_
          refine ej_th (cj_ret ?_)
          exact ej_ret1 rfl Tryz.results11 rfl (fun w' hp => ⟨rfl, hp.below⟩)
    · refine oj_alloc Tryz.zeroValue26 rfl rfl (fun b7 => ?_)
      refine oj_nil ?_
      refine ej_pl (lt_y (y_loadN Tryz.isAgg26 Tryz.sizeOf26 rfl) rfl (lt_nil)) ?_
      refine pl_w1 2 (by kernel_rfl) rfl rfl (pl_fire rfl rfl rfl (by kernel_rfl) ?_)
      refine oj_call (X := { z : ItemV × Nat × Nat // z.1.pl = ringS }) (fun z => .tuple #[evI z.1.1, .int .i64 0]) (fun _ => []) (fun z => [itF (fun i => z.1.2.1 ≤ i ∧ i < z.1.2.2) [z.1.1]]) Tryz.call40 rfl (fun w1 hp => by
        have h := ew_Sort a38 w1 (hp_cl hp (fun i => n38 ≤ i ∧ i < m38) (at0 a38.g12) (gramV a38)) j23 b22 g20 g21 (ring_good (b := j23) (g := b22) (s := sNone) (parts := [gemV g20 sRound, gemV g21 sNone]) hp.rd (by decide) (hp.rdLit (b := b22) (sz := 3) (enc := encIt) [gemV g20 sRound, gemV g21 sNone] (fun _ => rfl) rfl (by unfold maxLen; simp)) (fun p hpp => by
        simp only [List.mem_cons, List.mem_nil_iff, or_false] at hpp
        rcases hpp with rfl | rfl
        · exact (gem_good (b := g20) (s := sRound) hp.rd (by decide))
        · exact (gem_good (b := g21) (s := sNone) hp.rd (by decide))))
        exact h.mono fun e w2 ⟨y, he, hg, hy, hG⟩ => ⟨⟨(y, w1.heap.size, w2.heap.size), hy⟩, he, hg, by simp, by simp, fun f hf => by
          rw [List.mem_singleton.1 hf]
          exact ⟨fun z hz => by rw [List.mem_singleton.1 hz]; exact hG, fun i hi => ⟨hi.1, hi.2, by simp⟩⟩⟩) rfl ?_
      rintro ⟨⟨y, n1, n2⟩, hy⟩
      dsimp only [List.cons_append, List.nil_append] at hy ⊢
      refine oj_nil ?_
      refine ej_pl (lt_w (by kernel_rfl) (lt_nil)) ?_
      refine pl_y 3 rfl (y_move rfl) rfl rfl rfl rfl (by kernel_rfl) ?_
      refine pl_y 4 rfl (y_extract rfl rfl) rfl rfl rfl rfl (by kernel_rfl) ?_
      refine pl_y 5 rfl (y_extract rfl rfl) rfl rfl rfl rfl (by kernel_rfl) ?_
      refine pl_w1 7 (by kernel_rfl) rfl rfl (pl_fire rfl rfl rfl (by kernel_rfl) ?_)
      refine oj_store rfl rfl rfl rfl Tryz.sizeOf26 rfl ?_
      refine oj_nil ?_
      refine ej_pl (lt_y (y_extract rfl rfl) rfl (lt_w (by kernel_rfl) (lt_w (by kernel_rfl) (lt_w (by kernel_rfl) (lt_nil))))) ?_
      refine pl_y 8 rfl (y_assign rfl) rfl rfl rfl rfl (by kernel_rfl) ?_
      refine pl_end (by kernel_rfl) ?_
      refine ej_th (cj_seq ?_)
      refine cj_plan 8 (by kernel_rfl) (by kernel_rfl) ?_
      refine pl_y 1 rfl (y_loadN Tryz.isAgg26 Tryz.sizeOf26 rfl) rfl rfl rfl rfl (by kernel_rfl) ?_
      refine pl_w1 0 (by kernel_rfl) rfl rfl (pl_fire rfl rfl rfl (by kernel_rfl) ?_)
      refine oj_call (X := GrA × Nat × Nat) (fun z => .slice (some ⟨z.1.g12, 0, none⟩) 2 2) (fun _ => []) (fun z => [clF (fun i => z.2.1 ≤ i ∧ i < z.2.2) (at0 z.1.g12) (gramV z.1)]) Tryz.call17 rfl (fun w hp => k_grammar w) rfl ?_
      rintro ⟨a44, n44, m44⟩
      dsimp only [List.nil_append, List.cons_append]
      refine oj_nil ?_
      refine ej_pl (lt_y (y_loadN Tryz.isAgg26 Tryz.sizeOf26 rfl) rfl (lt_nil)) ?_
      refine pl_y 2 rfl (y_call Tryz.call6 rfl (fun w hp => ew_Print2 a44 w (hp_cl hp (fun i => n44 ≤ i ∧ i < m44) (at0 a44.g12) (gramV a44)) y (hp_it hp (fun i => n1 ≤ i ∧ i < n2) y) hy)) rfl rfl rfl rfl (by kernel_rfl) ?_
      refine pl_y 3 rfl (y_move rfl) rfl rfl rfl rfl (by kernel_rfl) ?_
      refine pl_y 4 rfl (y_extract rfl rfl) rfl rfl rfl rfl (by kernel_rfl) ?_
      refine pl_y 5 rfl (y_extract rfl rfl) rfl rfl rfl rfl (by kernel_rfl) ?_
      refine pl_y 6 rfl (y_assign rfl) rfl rfl rfl rfl (by kernel_rfl) ?_
      refine pl_y 7 rfl (y_assign rfl) rfl rfl rfl rfl (by kernel_rfl) ?_
      refine pl_end (by kernel_rfl) ?_
      refine ej_th (cj_seq (cj_seq (cj_region ?_)))
      refine oj_step (y_move rfl) rfl rfl rfl ?_
      refine oj_step (y_neq rfl rfl) rfl rfl rfl ?_
      refine oj_step (y_move rfl) rfl rfl rfl ?_
      refine oj_yes rfl rfl rfl ?_
      refine oj_step (y_move rfl) rfl rfl rfl ?_
      refine oj_yes rfl rfl rfl ?_
      refine oj_step (y_neq rfl rfl) rfl rfl rfl ?_
      refine oj_step (y_pick rfl rfl rfl) rfl rfl rfl ?_
      refine oj_step (y_move rfl) rfl rfl rfl ?_
      refine oj_yes rfl rfl rfl ?_
      refine oj_step (y_move rfl) rfl rfl rfl ?_
      refine oj_yes rfl rfl rfl ?_
      refine oj_step (y_neq rfl rfl) rfl rfl rfl ?_
      refine oj_step (y_pick rfl rfl rfl) rfl rfl rfl ?_
      refine oj_step (y_move rfl) rfl rfl rfl ?_
      refine oj_yes rfl rfl rfl ?_
      refine oj_step (y_move rfl) rfl rfl rfl ?_
      refine oj_yes rfl rfl rfl ?_
      refine oj_step (y_neq rfl rfl) rfl rfl rfl ?_
      refine oj_step (y_pick rfl rfl rfl) rfl rfl rfl ?_
      refine oj_step (y_move rfl) rfl rfl rfl ?_
      refine oj_yes rfl rfl rfl ?_
      refine oj_step (y_move rfl) rfl rfl rfl ?_
      refine oj_yes rfl rfl rfl ?_
      refine oj_step (y_neqS rfl rfl) rfl rfl rfl ?_
      refine oj_step (y_pick rfl rfl rfl) rfl rfl rfl ?_
      refine oj_step (y_move rfl) rfl rfl rfl ?_
      refine oj_yes rfl rfl rfl ?_
      refine oj_step (y_move rfl) rfl rfl rfl ?_
      refine oj_yes rfl rfl rfl ?_
      refine oj_step (y_neq rfl rfl) rfl rfl rfl ?_
      refine oj_step (y_pick rfl rfl rfl) rfl rfl rfl ?_
      refine oj_step (y_move rfl) rfl rfl rfl ?_
      refine oj_yes rfl rfl rfl ?_
      refine oj_step (y_move rfl) rfl rfl rfl ?_
      refine oj_yes rfl rfl rfl ?_
      refine oj_step (y_neq rfl rfl) rfl rfl rfl ?_
      refine oj_step (y_pick rfl rfl rfl) rfl rfl rfl ?_
      refine oj_step (y_move rfl) rfl rfl rfl ?_
      refine oj_yes rfl rfl rfl ?_
      refine oj_step (y_move rfl) rfl rfl rfl ?_
      refine oj_yes rfl rfl rfl ?_
      refine oj_step (y_neqS rfl rfl) rfl rfl rfl ?_
      refine oj_step (y_pick rfl rfl rfl) rfl rfl rfl ?_
      refine oj_nil ?_
      refine ej_th ?_
      refine cj_cond rfl (fun h78 => ?_) (fun h78 => ?_)
      · exact absurd h78 (by decide)
      · have h78b := h78
        try simp only [sxb] at h78
        refine cj_skip (ej_th (cj_seq ?_))
        refine cj_plan 12 (by kernel_rfl) (by kernel_rfl) ?_
        refine pl_y 1 rfl (y_loadN Tryz.isAgg26 Tryz.sizeOf26 rfl) rfl rfl rfl rfl (by kernel_rfl) ?_
        refine pl_w1 0 (by kernel_rfl) rfl rfl (pl_fire rfl rfl rfl (by kernel_rfl) ?_)
        refine oj_call (X := GrA × Nat × Nat) (fun z => .slice (some ⟨z.1.g12, 0, none⟩) 2 2) (fun _ => []) (fun z => [clF (fun i => z.2.1 ≤ i ∧ i < z.2.2) (at0 z.1.g12) (gramV z.1)]) Tryz.call17 rfl (fun w hp => k_grammar w) rfl ?_
        rintro ⟨a80, n80, m80⟩
        dsimp only [List.nil_append, List.cons_append]
        refine oj_nil ?_
        refine ej_pl (lt_y (y_loadN Tryz.isAgg26 Tryz.sizeOf26 rfl) rfl (lt_nil)) ?_
        refine pl_w1 2 (by kernel_rfl) rfl rfl (pl_fire rfl rfl rfl (by kernel_rfl) ?_)
        refine oj_call (X := Nat) (fun x => .agg #[.string sGem, .slice (some ⟨x, 0, none⟩) 1 1, .slice none 0 0]) (fun _ => []) (fun x => [litS x 1 enStr [sOval]]) Tryz.call16 rfl (fun w hp => k_gem sOval w) rfl (fun g82 => ?_)
        dsimp only [List.nil_append, List.cons_append]
        refine oj_nil ?_
        refine ej_pl (lt_y (y_loadN Tryz.isAgg26 Tryz.sizeOf26 rfl) rfl (lt_nil)) ?_
        refine pl_w1 3 (by kernel_rfl) rfl rfl (pl_fire rfl rfl rfl (by kernel_rfl) ?_)
        refine oj_call (X := Nat) (fun x => .agg #[.string sGem, .slice (some ⟨x, 0, none⟩) 1 1, .slice none 0 0]) (fun _ => []) (fun x => [litS x 1 enStr [sRound]]) Tryz.call16 rfl (fun w hp => k_gem sRound w) rfl (fun g83 => ?_)
        dsimp only [List.nil_append, List.cons_append]
        refine oj_nil ?_
        refine ej_pl (lt_y (y_loadN Tryz.isAgg26 Tryz.sizeOf26 rfl) rfl (lt_nil)) ?_
        refine pl_w1 4 (by kernel_rfl) rfl rfl (pl_fire rfl rfl rfl (by kernel_rfl) ?_)
        refine oj_buildSlice (cs := [.string sGem, .slice (some ⟨g82, 0, none⟩) 1 1, .slice none 0 0, .string sGem, .slice (some ⟨g83, 0, none⟩) 1 1, .slice none 0 0]) [.string ⟨#[]⟩, .slice none 0 0, .slice none 0 0, .string ⟨#[]⟩, .slice none 0 0, .slice none 0 0] Tryz.underlying24 Tryz.sizeOf26 Tryz.zeroValue26 rfl rfl (by kernel_rfl) (by kernel_rfl) rfl (fun b84 => ?_)
        refine oj_nil ?_
        refine ej_pl (lt_y (y_loadN Tryz.isAgg26 Tryz.sizeOf26 rfl) rfl (lt_nil)) ?_
        refine pl_w1 5 (by kernel_rfl) rfl rfl (pl_fire rfl rfl rfl (by kernel_rfl) ?_)
        refine oj_call (X := Nat) (fun x => .agg #[.string sRing, .slice (some ⟨x, 0, none⟩) 2 2, .slice (some ⟨b84, 0, none⟩) 2 2]) (fun _ => []) (fun x => [litS x 1 enStr [sGold, sSmall]]) Tryz.call15 rfl (fun w hp => k_jewel sSmall (some ⟨b84, 0, none⟩) 2 2 w) rfl (fun j85 => ?_)
        dsimp only [List.nil_append, List.cons_append]
        refine oj_nil ?_
        refine ej_pl (lt_y (y_loadN Tryz.isAgg26 Tryz.sizeOf26 rfl) rfl (lt_nil)) ?_
        refine pl_y 6 rfl (y_call Tryz.call41 rfl (fun w hp => ew_Cov1 a80 w (hp_cl hp (fun i => n80 ≤ i ∧ i < m80) (at0 a80.g12) (gramV a80)) j23 b22 g20 g21 (ring_good (b := j23) (g := b22) (s := sNone) (parts := [gemV g20 sRound, gemV g21 sNone]) hp.rd (by decide) (hp.rdLit (b := b22) (sz := 3) (enc := encIt) [gemV g20 sRound, gemV g21 sNone] (fun _ => rfl) rfl (by unfold maxLen; simp)) (fun p hpp => by
          simp only [List.mem_cons, List.mem_nil_iff, or_false] at hpp
          rcases hpp with rfl | rfl
          · exact (gem_good (b := g20) (s := sRound) hp.rd (by decide))
          · exact (gem_good (b := g21) (s := sNone) hp.rd (by decide)))) j85 b84 g82 g83 (ring_good (b := j85) (g := b84) (s := sSmall) (parts := [gemV g82 sOval, gemV g83 sRound]) hp.rd (by decide) (hp.rdLit (b := b84) (sz := 3) (enc := encIt) [gemV g82 sOval, gemV g83 sRound] (fun _ => rfl) rfl (by unfold maxLen; simp)) (fun p hpp => by
          simp only [List.mem_cons, List.mem_nil_iff, or_false] at hpp
          rcases hpp with rfl | rfl
          · exact (gem_good (b := g82) (s := sOval) hp.rd (by decide))
          · exact (gem_good (b := g83) (s := sRound) hp.rd (by decide)))))) rfl rfl rfl rfl (by kernel_rfl) ?_
        refine pl_y 7 rfl (y_move rfl) rfl rfl rfl rfl (by kernel_rfl) ?_
        refine pl_y 8 rfl (y_extract rfl rfl) rfl rfl rfl rfl (by kernel_rfl) ?_
        refine pl_y 9 rfl (y_extract rfl rfl) rfl rfl rfl rfl (by kernel_rfl) ?_
        refine pl_y 10 rfl (y_assign rfl) rfl rfl rfl rfl (by kernel_rfl) ?_
        refine pl_y 11 rfl (y_assign rfl) rfl rfl rfl rfl (by kernel_rfl) ?_
        refine pl_end (by kernel_rfl) ?_
        refine ej_th (cj_seq ?_)
        refine cj_plan 11 (by kernel_rfl) (by kernel_rfl) ?_
        refine pl_y 1 rfl (y_loadN Tryz.isAgg26 Tryz.sizeOf26 rfl) rfl rfl rfl rfl (by kernel_rfl) ?_
        refine pl_w1 0 (by kernel_rfl) rfl rfl (pl_fire rfl rfl rfl (by kernel_rfl) ?_)
        refine oj_call (X := GrA × Nat × Nat) (fun z => .slice (some ⟨z.1.g12, 0, none⟩) 2 2) (fun _ => []) (fun z => [clF (fun i => z.2.1 ≤ i ∧ i < z.2.2) (at0 z.1.g12) (gramV z.1)]) Tryz.call17 rfl (fun w hp => k_grammar w) rfl ?_
        rintro ⟨a90, n90, m90⟩
        dsimp only [List.nil_append, List.cons_append]
        refine oj_nil ?_
        refine ej_pl (lt_y (y_loadN Tryz.isAgg26 Tryz.sizeOf26 rfl) rfl (lt_nil)) ?_
        refine pl_w1 2 (by kernel_rfl) rfl rfl (pl_fire rfl rfl rfl (by kernel_rfl) ?_)
        refine oj_call (X := Nat) (fun x => .agg #[.string sGem, .slice (some ⟨x, 0, none⟩) 1 1, .slice none 0 0]) (fun _ => []) (fun x => [litS x 1 enStr [sNone]]) Tryz.call16 rfl (fun w hp => k_gem sNone w) rfl (fun g92 => ?_)
        dsimp only [List.nil_append, List.cons_append]
        refine oj_nil ?_
        refine ej_pl (lt_y (y_loadN Tryz.isAgg26 Tryz.sizeOf26 rfl) rfl (lt_nil)) ?_
        refine pl_w1 3 (by kernel_rfl) rfl rfl (pl_fire rfl rfl rfl (by kernel_rfl) ?_)
        refine oj_buildSlice (cs := [.string sGem, .slice (some ⟨g92, 0, none⟩) 1 1, .slice none 0 0]) [.string ⟨#[]⟩, .slice none 0 0, .slice none 0 0] Tryz.underlying24 Tryz.sizeOf26 Tryz.zeroValue26 rfl rfl (by kernel_rfl) (by kernel_rfl) rfl (fun b93 => ?_)
        refine oj_nil ?_
        refine ej_pl (lt_y (y_loadN Tryz.isAgg26 Tryz.sizeOf26 rfl) rfl (lt_nil)) ?_
        refine pl_w1 4 (by kernel_rfl) rfl rfl (pl_fire rfl rfl rfl (by kernel_rfl) ?_)
        refine oj_call (X := Nat) (fun x => .agg #[.string sRing, .slice (some ⟨x, 0, none⟩) 2 2, .slice (some ⟨b93, 0, none⟩) 1 1]) (fun _ => []) (fun x => [litS x 1 enStr [sGold, sNone]]) Tryz.call15 rfl (fun w hp => k_jewel sNone (some ⟨b93, 0, none⟩) 1 1 w) rfl (fun j94 => ?_)
        dsimp only [List.nil_append, List.cons_append]
        refine oj_nil ?_
        refine ej_pl (lt_y (y_loadN Tryz.isAgg26 Tryz.sizeOf26 rfl) rfl (lt_nil)) ?_
        refine pl_y 5 rfl (y_call Tryz.call41 rfl (fun w hp => ew_Cov2 a90 w (hp_cl hp (fun i => n90 ≤ i ∧ i < m90) (at0 a90.g12) (gramV a90)) j23 b22 g20 g21 (ring_good (b := j23) (g := b22) (s := sNone) (parts := [gemV g20 sRound, gemV g21 sNone]) hp.rd (by decide) (hp.rdLit (b := b22) (sz := 3) (enc := encIt) [gemV g20 sRound, gemV g21 sNone] (fun _ => rfl) rfl (by unfold maxLen; simp)) (fun p hpp => by
          simp only [List.mem_cons, List.mem_nil_iff, or_false] at hpp
          rcases hpp with rfl | rfl
          · exact (gem_good (b := g20) (s := sRound) hp.rd (by decide))
          · exact (gem_good (b := g21) (s := sNone) hp.rd (by decide)))) j94 b93 g92 (ring_good (b := j94) (g := b93) (s := sNone) (parts := [gemV g92 sNone]) hp.rd (by decide) (hp.rdLit (b := b93) (sz := 3) (enc := encIt) [gemV g92 sNone] (fun _ => rfl) rfl (by unfold maxLen; simp)) (fun p hpp => by
          simp only [List.mem_cons, List.mem_nil_iff, or_false] at hpp
          rcases hpp with rfl
          · exact (gem_good (b := g92) (s := sNone) hp.rd (by decide)))))) rfl rfl rfl rfl (by kernel_rfl) ?_
        refine pl_y 6 rfl (y_move rfl) rfl rfl rfl rfl (by kernel_rfl) ?_
        refine pl_y 7 rfl (y_extract rfl rfl) rfl rfl rfl rfl (by kernel_rfl) ?_
        refine pl_y 8 rfl (y_extract rfl rfl) rfl rfl rfl rfl (by kernel_rfl) ?_
        refine pl_y 9 rfl (y_assign rfl) rfl rfl rfl rfl (by kernel_rfl) ?_
        refine pl_y 10 rfl (y_assign rfl) rfl rfl rfl rfl (by kernel_rfl) ?_
        refine pl_end (by kernel_rfl) ?_
        refine ej_th (cj_seq (cj_region ?_))
        refine oj_call (X := Nat × Nat × Nat × Nat × Nat) (fun z => .agg #[.slice (some ⟨z.1, 0, none⟩) 2 2, .slice (some ⟨z.2.1, 0, none⟩) 2 2, .slice (some ⟨z.2.2.1, 0, none⟩) 2 2]) (fun _ => []) (fun z => [litS z.1 2 encMe mEx, litS z.2.1 1 enInt tEx, litS z.2.2.1 1 encFk (fEx z.2.2.2.1 z.2.2.2.2), litS z.2.2.2.1 2 encSp [⟨90, 93⟩, ⟨900, 1100⟩], litS z.2.2.2.2 2 encSp [⟨95, 105⟩, ⟨1016, 1030⟩]]) Tryz.call19 rfl (fun w hp => k_skillEx w) rfl ?_
        rintro ⟨mm, mt, mf, m1, m2⟩
        dsimp only [List.nil_append, List.cons_append]
        refine oj_alloc Tryz.zeroValue52 rfl rfl (fun b13 => ?_)
        refine oj_store rfl rfl rfl rfl Tryz.sizeOf52 rfl ?_
        refine oj_nil ?_
        refine ej_th (cj_seq (cj_region ?_))
        refine oj_step (y_fa0 fa52_0 rfl) rfl rfl rfl ?_
        refine oj_step (y_load1 Tryz.isAgg48 rfl rfl) rfl rfl rfl ?_
        refine oj_buildSlice (cs := [.int .i64 100, .int .i64 1000]) [.int .i64 0, .int .i64 0] Tryz.underlying49 Tryz.sizeOf3 Tryz.zeroValue3 rfl rfl (by kernel_rfl) (by kernel_rfl) rfl (fun b102 => ?_)
        refine oj_buildSlice (cs := [.int .i64 103, .int .i64 (-1)]) [.int .i64 0, .int .i64 0] Tryz.underlying49 Tryz.sizeOf3 Tryz.zeroValue3 rfl rfl (by kernel_rfl) (by kernel_rfl) rfl (fun b103 => ?_)
        refine oj_buildSlice (cs := [.slice (some ⟨b102, 0, none⟩) 2 2, .slice (some ⟨b103, 0, none⟩) 2 2]) [.slice none 0 0, .slice none 0 0] Tryz.underlying57 Tryz.sizeOf49 Tryz.zeroValue49 rfl rfl (by kernel_rfl) (by kernel_rfl) rfl (fun b104 => ?_)
        refine oj_callS (fun A c => .tuple #[.slice A ([⟨101, 102⟩, ⟨995, 1005⟩] : List Span).length c, .int .i64 0]) 2 encSp ([⟨101, 102⟩, ⟨995, 1005⟩] : List Span) Tryz.call20 rfl (fun w hp => ew_Narrow (some ⟨mm, 0, none⟩) (some ⟨b104, 0, none⟩) b102 b103 w hp.rd (hp.rdLit (b := b104) (sz := 1) (enc := encLs) (rEx b102 b103) (fun _ => rfl) rfl (by unfold maxLen; simp)) (fun r hr => by
          simp only [List.mem_cons, List.mem_nil_iff, or_false] at hr
          rcases hr with rfl | rfl
          · exact (hp.rdLit (b := b102) (sz := 1) (enc := enInt) [100, 1000] (fun _ => rfl) rfl (by unfold maxLen; simp))
          · exact (hp.rdLit (b := b103) (sz := 1) (enc := enInt) [103, -1] (fun _ => rfl) rfl (by unfold maxLen; simp)))) rfl (fun A105 c105 fp105 hfp105 => ?_)
        refine oj_step (y_move rfl) rfl rfl rfl ?_
        refine oj_step (y_extract rfl rfl) rfl rfl rfl ?_
        refine oj_step (y_extract rfl rfl) rfl rfl rfl ?_
        refine oj_step (y_assign rfl) rfl rfl rfl ?_
        refine oj_step (y_assign rfl) rfl rfl rfl ?_
        refine oj_nil ?_
        refine ej_th (cj_seq (cj_region ?_))
        refine oj_step (y_fa0 fa52_0 rfl) rfl rfl rfl ?_
        refine oj_step (y_load1 Tryz.isAgg48 rfl rfl) rfl rfl rfl ?_
        refine oj_step (y_fa fa52_1 rfl) rfl rfl rfl ?_
        refine oj_step (y_load1 Tryz.isAgg49 rfl rfl) rfl rfl rfl ?_
        refine oj_step (y_fa fa52_2 rfl) rfl rfl rfl ?_
        refine oj_step (y_load1 Tryz.isAgg50 rfl rfl) rfl rfl rfl ?_
        refine oj_callS (fun A c => .tuple #[.slice A ([0, 1] : List Int).length c, .int .i64 5, .int .i64 0]) 1 enInt ([0, 1] : List Int) Tryz.call24 rfl (fun w hp => ew_Least (some ⟨mm, 0, none⟩) (some ⟨mt, 0, none⟩) (some ⟨mf, 0, none⟩) m1 m2 w hp.rd hp.rd hp.rd (fun f hff => by
          simp only [List.mem_cons, List.mem_nil_iff, or_false] at hff
          rcases hff with rfl | rfl
          · exact hp.rd
          · exact hp.rd)) rfl (fun A115 c115 fp115 hfp115 => ?_)
        refine oj_step (y_move rfl) rfl rfl rfl ?_
        refine oj_step (y_extract rfl rfl) rfl rfl rfl ?_
        refine oj_step (y_extract rfl rfl) rfl rfl rfl ?_
        refine oj_step (y_extract rfl rfl) rfl rfl rfl ?_
        refine oj_step (y_assign rfl) rfl rfl rfl ?_
        refine oj_step (y_assign rfl) rfl rfl rfl ?_
        refine oj_step (y_assign rfl) rfl rfl rfl ?_
        refine oj_nil ?_
        refine ej_th (cj_seq (cj_seq (cj_region ?_)))
        refine oj_step (y_move rfl) rfl rfl rfl ?_
        refine oj_step (y_neq rfl rfl) rfl rfl rfl ?_
        refine oj_step (y_move rfl) rfl rfl rfl ?_
        refine oj_yes rfl rfl rfl ?_
        refine oj_step (y_move rfl) rfl rfl rfl ?_
        refine oj_yes rfl rfl rfl ?_
        refine oj_step (y_neq rfl rfl) rfl rfl rfl ?_
        refine oj_step (y_pick rfl rfl rfl) rfl rfl rfl ?_
        refine oj_step (y_move rfl) rfl rfl rfl ?_
        refine oj_yes rfl rfl rfl ?_
        refine oj_step (y_move rfl) rfl rfl rfl ?_
        refine oj_yes rfl rfl rfl ?_
        refine oj_step (y_neq rfl rfl) rfl rfl rfl ?_
        refine oj_step (y_pick rfl rfl rfl) rfl rfl rfl ?_
        refine oj_step (y_move rfl) rfl rfl rfl ?_
        refine oj_yes rfl rfl rfl ?_
        refine oj_step (y_move rfl) rfl rfl rfl ?_
        refine oj_yes rfl rfl rfl ?_
        refine oj_step (y_neq rfl rfl) rfl rfl rfl ?_
        refine oj_step (y_pick rfl rfl rfl) rfl rfl rfl ?_
        refine oj_step (y_move rfl) rfl rfl rfl ?_
        refine oj_yes rfl rfl rfl ?_
        refine oj_step (y_move rfl) rfl rfl rfl ?_
        refine oj_yes rfl rfl rfl ?_
        refine oj_step (y_not rfl) rfl rfl rfl ?_
        refine oj_step (y_pick rfl rfl rfl) rfl rfl rfl ?_
        refine oj_step (y_move rfl) rfl rfl rfl ?_
        refine oj_yes rfl rfl rfl ?_
        refine oj_step (y_move rfl) rfl rfl rfl ?_
        refine oj_step (y_pick rfl rfl rfl) rfl rfl rfl ?_
        refine oj_step (y_move rfl) rfl rfl rfl ?_
        refine oj_yes rfl rfl rfl ?_
        refine oj_step (y_move rfl) rfl rfl rfl ?_
        refine oj_yes rfl rfl rfl ?_
        refine oj_step (y_build (cs := [.int .i64 101, .int .i64 102]) st70 rfl (by kernel_rfl)) rfl rfl rfl ?_
        refine oj_yes rfl rfl rfl ?_
        refine oj_step (y_build (cs := [.int .i64 995, .int .i64 1005]) st70 rfl (by kernel_rfl)) rfl rfl rfl ?_
        refine oj_yes rfl rfl rfl ?_
        refine oj_buildSlice (cs := [.int .i64 101, .int .i64 102, .int .i64 995, .int .i64 1005]) [.int .i64 0, .int .i64 0, .int .i64 0, .int .i64 0] Tryz.underlying54 Tryz.sizeOf70 Tryz.zeroValue70 rfl rfl (by kernel_rfl) (by kernel_rfl) rfl (fun b144 => ?_)
        refine oj_yes rfl rfl rfl ?_
        refine oj_step (y_call Tryz.call42 rfl (fun w hp => k_SameSp ([⟨101, 102⟩, ⟨995, 1005⟩] : List Span) ([⟨101, 102⟩, ⟨995, 1005⟩] : List Span) A105 (some ⟨b144, 0, none⟩) c105 2 w hp.rd (hp.rdLit (b := b144) (sz := 2) (enc := encSp) ([⟨101, 102⟩, ⟨995, 1005⟩] : List Span) (fun _ => rfl) rfl (by unfold maxLen; simp)))) rfl rfl rfl ?_
        refine oj_yes rfl rfl rfl ?_
        refine oj_step (y_not rfl) rfl rfl rfl ?_
        refine oj_step (y_pick rfl rfl rfl) rfl rfl rfl ?_
        refine oj_step (y_move rfl) rfl rfl rfl ?_
        refine oj_yes rfl rfl rfl ?_
        refine oj_step (y_move rfl) rfl rfl rfl ?_
        refine oj_yes rfl rfl rfl ?_
        refine oj_buildSlice (cs := [.int .i64 0, .int .i64 1]) [.int .i64 0, .int .i64 0] Tryz.underlying49 Tryz.sizeOf3 Tryz.zeroValue3 rfl rfl (by kernel_rfl) (by kernel_rfl) rfl (fun b150 => ?_)
        refine oj_yes rfl rfl rfl ?_
        refine oj_step (y_call Tryz.call26 rfl (fun w hp => k_Same ([0, 1] : List Int) ([0, 1] : List Int) A115 (some ⟨b150, 0, none⟩) c115 2 w hp.rd (hp.rdLit (b := b150) (sz := 1) (enc := enInt) ([0, 1] : List Int) (fun _ => rfl) rfl (by unfold maxLen; simp)))) rfl rfl rfl ?_
        refine oj_yes rfl rfl rfl ?_
        refine oj_step (y_not rfl) rfl rfl rfl ?_
        refine oj_step (y_pick rfl rfl rfl) rfl rfl rfl ?_
        refine oj_step (y_move rfl) rfl rfl rfl ?_
        refine oj_yes rfl rfl rfl ?_
        refine oj_step (y_move rfl) rfl rfl rfl ?_
        refine oj_yes rfl rfl rfl ?_
        refine oj_step (y_neq rfl rfl) rfl rfl rfl ?_
        refine oj_step (y_pick rfl rfl rfl) rfl rfl rfl ?_
        refine oj_nil ?_
        refine ej_th ?_
        refine cj_cond rfl (fun h157 => ?_) (fun h157 => ?_)
        · exact absurd h157 (by decide)
        · have h157b := h157
          try simp only [sxb] at h157
          refine cj_skip (ej_th (cj_seq ?_))
          refine cj_plan 14 (by kernel_rfl) (by kernel_rfl) ?_
          refine pl_y 0 rfl (y_fa0 fa52_0 rfl) rfl rfl rfl rfl (by kernel_rfl) ?_
          refine pl_y 1 rfl (y_load1 Tryz.isAgg48 rfl rfl) rfl rfl rfl rfl (by kernel_rfl) ?_
          refine pl_y 2 rfl (y_fa fa52_1 rfl) rfl rfl rfl rfl (by kernel_rfl) ?_
          refine pl_y 3 rfl (y_load1 Tryz.isAgg49 rfl rfl) rfl rfl rfl rfl (by kernel_rfl) ?_
          refine pl_y 4 rfl (y_fa fa52_2 rfl) rfl rfl rfl rfl (by kernel_rfl) ?_
          refine pl_y 5 rfl (y_load1 Tryz.isAgg50 rfl rfl) rfl rfl rfl rfl (by kernel_rfl) ?_
          refine pl_y 6 rfl (y_ixR (reads_sl (xs := fEx m1 m2) (enc := encFk) (sz := 1)) Tryz.underlying50 Tryz.sizeOf63 rfl rfl ⟨by decide, show (0 : Int) < ((2 : Nat) : Int) by decide⟩) rfl rfl rfl rfl (by kernel_rfl) ?_
          refine pl_y 7 rfl (y_ldW (reads_sl) Tryz.isAgg63 Tryz.sizeOf63 rfl (rfl) (fun _ => rfl)) rfl rfl rfl rfl (by kernel_rfl) ?_
          refine pl_w1 8 (by kernel_rfl) rfl rfl (pl_fire rfl rfl rfl (by kernel_rfl) ?_)
          refine oj_callS (fun A c => .tuple #[.slice A ([0] : List Int).length c, .int .i64 0]) 1 enInt ([0] : List Int) Tryz.call22 rfl (fun w hp => ew_Finds (some ⟨mm, 0, none⟩) (some ⟨mt, 0, none⟩) m1 w hp.rd hp.rd hp.rd) rfl (fun A167 c167 fp167 hfp167 => ?_)
          refine oj_nil ?_
          refine ej_pl (lt_w (by kernel_rfl) (lt_y (y_ixR (reads_sl (xs := fEx m1 m2) (enc := encFk) (sz := 1)) Tryz.underlying50 Tryz.sizeOf63 rfl rfl ⟨by decide, show (0 : Int) < ((2 : Nat) : Int) by decide⟩) rfl (lt_y (y_load1 Tryz.isAgg50 rfl rfl) rfl (lt_y (y_fa fa52_2 rfl) rfl (lt_w (by kernel_rfl) (lt_y (y_fa fa52_1 rfl) rfl (lt_w (by kernel_rfl) (lt_y (y_fa0 fa52_0 rfl) rfl (lt_nil))))))))) ?_
          refine pl_y 9 rfl (y_move rfl) rfl rfl rfl rfl (by kernel_rfl) ?_
          refine pl_y 10 rfl (y_extract rfl rfl) rfl rfl rfl rfl (by kernel_rfl) ?_
          refine pl_y 11 rfl (y_extract rfl rfl) rfl rfl rfl rfl (by kernel_rfl) ?_
          refine pl_y 12 rfl (y_assign rfl) rfl rfl rfl rfl (by kernel_rfl) ?_
          refine pl_y 13 rfl (y_assign rfl) rfl rfl rfl rfl (by kernel_rfl) ?_
          refine pl_end (by kernel_rfl) ?_
          refine ej_th (cj_seq (cj_region ?_))
          refine oj_step (y_fa0 fa52_0 rfl) rfl rfl rfl ?_
          refine oj_step (y_load1 Tryz.isAgg48 rfl rfl) rfl rfl rfl ?_
          refine oj_step (y_fa fa52_1 rfl) rfl rfl rfl ?_
          refine oj_step (y_load1 Tryz.isAgg49 rfl rfl) rfl rfl rfl ?_
          refine oj_buildSlice (cs := [.int .i64 104, .int .i64 1010]) [.int .i64 0, .int .i64 0] Tryz.underlying49 Tryz.sizeOf3 Tryz.zeroValue3 rfl rfl (by kernel_rfl) (by kernel_rfl) rfl (fun b175 => ?_)
          refine oj_step (y_call Tryz.call21 rfl (fun w hp => ew_Agree (some ⟨mm, 0, none⟩) (some ⟨mt, 0, none⟩) (some ⟨b175, 0, none⟩) w hp.rd hp.rd (hp.rdLit (b := b175) (sz := 1) (enc := enInt) [104, 1010] (fun _ => rfl) rfl (by unfold maxLen; simp)))) rfl rfl rfl ?_
          refine oj_step (y_move rfl) rfl rfl rfl ?_
          refine oj_step (y_extract rfl rfl) rfl rfl rfl ?_
          refine oj_step (y_extract rfl rfl) rfl rfl rfl ?_
          refine oj_step (y_assign rfl) rfl rfl rfl ?_
          refine oj_step (y_assign rfl) rfl rfl rfl ?_
          refine oj_nil ?_
          refine ej_th (cj_seq (cj_region ?_))
          refine oj_step (y_fa0 fa52_0 rfl) rfl rfl rfl ?_
          refine oj_step (y_load1 Tryz.isAgg48 rfl rfl) rfl rfl rfl ?_
          refine oj_step (y_fa fa52_1 rfl) rfl rfl rfl ?_
          refine oj_step (y_load1 Tryz.isAgg49 rfl rfl) rfl rfl rfl ?_
          refine oj_step (y_fa fa52_2 rfl) rfl rfl rfl ?_
          refine oj_step (y_load1 Tryz.isAgg50 rfl rfl) rfl rfl rfl ?_
          refine oj_buildSlice (cs := [.int .i64 1, .int .i64 4]) [.int .i64 0, .int .i64 0] Tryz.underlying49 Tryz.sizeOf3 Tryz.zeroValue3 rfl rfl (by kernel_rfl) (by kernel_rfl) rfl (fun b186 => ?_)
          refine oj_step (y_call Tryz.call25 rfl (fun w hp => ew_Bound (some ⟨mm, 0, none⟩) (some ⟨mt, 0, none⟩) (some ⟨mf, 0, none⟩) (some ⟨b186, 0, none⟩) m1 m2 w hp.rd hp.rd hp.rd (fun f hff => by
            simp only [List.mem_cons, List.mem_nil_iff, or_false] at hff
            rcases hff with rfl | rfl
            · exact hp.rd
            · exact hp.rd) (hp.rdLit (b := b186) (sz := 1) (enc := enInt) [1, 4] (fun _ => rfl) rfl (by unfold maxLen; simp)))) rfl rfl rfl ?_
          refine oj_step (y_move rfl) rfl rfl rfl ?_
          refine oj_step (y_extract rfl rfl) rfl rfl rfl ?_
          refine oj_step (y_extract rfl rfl) rfl rfl rfl ?_
          refine oj_step (y_assign rfl) rfl rfl rfl ?_
          refine oj_step (y_assign rfl) rfl rfl rfl ?_
          refine oj_nil ?_
          refine ej_th (cj_seq (cj_region ?_))
          refine oj_step (y_move rfl) rfl rfl rfl ?_
          refine oj_step (y_eql rfl rfl) rfl rfl rfl ?_
          refine oj_step (y_move rfl) rfl rfl rfl ?_
          refine oj_yes rfl rfl rfl ?_
          refine oj_step (y_move rfl) rfl rfl rfl ?_
          refine oj_yes rfl rfl rfl ?_
          refine oj_step (y_eql rfl rfl) rfl rfl rfl ?_
          refine oj_step (y_pick rfl rfl rfl) rfl rfl rfl ?_
          refine oj_step (y_move rfl) rfl rfl rfl ?_
          refine oj_yes rfl rfl rfl ?_
          refine oj_step (y_move rfl) rfl rfl rfl ?_
          refine oj_yes rfl rfl rfl ?_
          refine oj_step (y_eql rfl rfl) rfl rfl rfl ?_
          refine oj_step (y_pick rfl rfl rfl) rfl rfl rfl ?_
          refine oj_step (y_move rfl) rfl rfl rfl ?_
          refine oj_yes rfl rfl rfl ?_
          refine oj_step (y_move rfl) rfl rfl rfl ?_
          refine oj_yes rfl rfl rfl ?_
          refine oj_buildSlice (cs := [.int .i64 0]) [.int .i64 0] Tryz.underlying49 Tryz.sizeOf3 Tryz.zeroValue3 rfl rfl (by kernel_rfl) (by kernel_rfl) rfl (fun b202 => ?_)
          refine oj_yes rfl rfl rfl ?_
          refine oj_step (y_call Tryz.call26 rfl (fun w hp => k_Same ([0] : List Int) ([0] : List Int) A167 (some ⟨b202, 0, none⟩) c167 1 w hp.rd (hp.rdLit (b := b202) (sz := 1) (enc := enInt) ([0] : List Int) (fun _ => rfl) rfl (by unfold maxLen; simp)))) rfl rfl rfl ?_
          refine oj_step (y_pick rfl rfl rfl) rfl rfl rfl ?_
          refine oj_step (y_move rfl) rfl rfl rfl ?_
          refine oj_yes rfl rfl rfl ?_
          refine oj_step (y_move rfl) rfl rfl rfl ?_
          refine oj_step (y_pick rfl rfl rfl) rfl rfl rfl ?_
          refine oj_step (y_move rfl) rfl rfl rfl ?_
          refine oj_yes rfl rfl rfl ?_
          refine oj_step (y_move rfl) rfl rfl rfl ?_
          refine oj_yes rfl rfl rfl ?_
          refine oj_step (y_eql rfl rfl) rfl rfl rfl ?_
          refine oj_step (y_pick rfl rfl rfl) rfl rfl rfl ?_
          refine oj_step (y_assign rfl) rfl rfl rfl ?_
          refine oj_nil ?_
          refine ej_th (cj_ret ?_)
          exact ej_ret1 rfl Tryz.results11 rfl (fun w' hp => ⟨rfl, hp.below⟩)
  · refine oj_alloc Tryz.zeroValue26 rfl rfl (fun b7 => ?_)
    refine oj_nil ?_
    refine ej_pl (lt_y (y_loadN Tryz.isAgg26 Tryz.sizeOf26 rfl) rfl (lt_nil)) ?_
    refine pl_w1 0 (by kernel_rfl) rfl rfl (pl_fire rfl rfl rfl (by kernel_rfl) ?_)
    refine oj_call (X := GrA × Nat × Nat) (fun z => .slice (some ⟨z.1.g12, 0, none⟩) 2 2) (fun _ => []) (fun z => [clF (fun i => z.2.1 ≤ i ∧ i < z.2.2) (at0 z.1.g12) (gramV z.1)]) Tryz.call17 rfl (fun w hp => k_grammar w) rfl ?_
    rintro ⟨a38, n38, m38⟩
    dsimp only [List.nil_append, List.cons_append]
    refine oj_nil ?_
    refine ej_pl (lt_y (y_loadN Tryz.isAgg26 Tryz.sizeOf26 rfl) rfl (lt_nil)) ?_
    refine pl_w1 2 (by kernel_rfl) rfl rfl (pl_fire rfl rfl rfl (by kernel_rfl) ?_)
    refine oj_call (X := { z : ItemV × Nat × Nat // z.1.pl = ringS }) (fun z => .tuple #[evI z.1.1, .int .i64 0]) (fun _ => []) (fun z => [itF (fun i => z.1.2.1 ≤ i ∧ i < z.1.2.2) [z.1.1]]) Tryz.call40 rfl (fun w1 hp => by
      have h := ew_Sort a38 w1 (hp_cl hp (fun i => n38 ≤ i ∧ i < m38) (at0 a38.g12) (gramV a38)) j23 b22 g20 g21 (ring_good (b := j23) (g := b22) (s := sNone) (parts := [gemV g20 sRound, gemV g21 sNone]) hp.rd (by decide) (hp.rdLit (b := b22) (sz := 3) (enc := encIt) [gemV g20 sRound, gemV g21 sNone] (fun _ => rfl) rfl (by unfold maxLen; simp)) (fun p hpp => by
      simp only [List.mem_cons, List.mem_nil_iff, or_false] at hpp
      rcases hpp with rfl | rfl
      · exact (gem_good (b := g20) (s := sRound) hp.rd (by decide))
      · exact (gem_good (b := g21) (s := sNone) hp.rd (by decide))))
      exact h.mono fun e w2 ⟨y, he, hg, hy, hG⟩ => ⟨⟨(y, w1.heap.size, w2.heap.size), hy⟩, he, hg, by simp, by simp, fun f hf => by
        rw [List.mem_singleton.1 hf]
        exact ⟨fun z hz => by rw [List.mem_singleton.1 hz]; exact hG, fun i hi => ⟨hi.1, hi.2, by simp⟩⟩⟩) rfl ?_
    rintro ⟨⟨y, n1, n2⟩, hy⟩
    dsimp only [List.cons_append, List.nil_append] at hy ⊢
    refine oj_nil ?_
    refine ej_pl (lt_w (by kernel_rfl) (lt_nil)) ?_
    refine pl_y 3 rfl (y_move rfl) rfl rfl rfl rfl (by kernel_rfl) ?_
    refine pl_y 4 rfl (y_extract rfl rfl) rfl rfl rfl rfl (by kernel_rfl) ?_
    refine pl_y 5 rfl (y_extract rfl rfl) rfl rfl rfl rfl (by kernel_rfl) ?_
    refine pl_w1 7 (by kernel_rfl) rfl rfl (pl_fire rfl rfl rfl (by kernel_rfl) ?_)
    refine oj_store rfl rfl rfl rfl Tryz.sizeOf26 rfl ?_
    refine oj_nil ?_
    refine ej_pl (lt_y (y_extract rfl rfl) rfl (lt_w (by kernel_rfl) (lt_w (by kernel_rfl) (lt_w (by kernel_rfl) (lt_nil))))) ?_
    refine pl_y 8 rfl (y_assign rfl) rfl rfl rfl rfl (by kernel_rfl) ?_
    refine pl_end (by kernel_rfl) ?_
    refine ej_th (cj_seq ?_)
    refine cj_plan 8 (by kernel_rfl) (by kernel_rfl) ?_
    refine pl_y 1 rfl (y_loadN Tryz.isAgg26 Tryz.sizeOf26 rfl) rfl rfl rfl rfl (by kernel_rfl) ?_
    refine pl_w1 0 (by kernel_rfl) rfl rfl (pl_fire rfl rfl rfl (by kernel_rfl) ?_)
    refine oj_call (X := GrA × Nat × Nat) (fun z => .slice (some ⟨z.1.g12, 0, none⟩) 2 2) (fun _ => []) (fun z => [clF (fun i => z.2.1 ≤ i ∧ i < z.2.2) (at0 z.1.g12) (gramV z.1)]) Tryz.call17 rfl (fun w hp => k_grammar w) rfl ?_
    rintro ⟨a44, n44, m44⟩
    dsimp only [List.nil_append, List.cons_append]
    refine oj_nil ?_
    refine ej_pl (lt_y (y_loadN Tryz.isAgg26 Tryz.sizeOf26 rfl) rfl (lt_nil)) ?_
    refine pl_y 2 rfl (y_call Tryz.call6 rfl (fun w hp => ew_Print2 a44 w (hp_cl hp (fun i => n44 ≤ i ∧ i < m44) (at0 a44.g12) (gramV a44)) y (hp_it hp (fun i => n1 ≤ i ∧ i < n2) y) hy)) rfl rfl rfl rfl (by kernel_rfl) ?_
    refine pl_y 3 rfl (y_move rfl) rfl rfl rfl rfl (by kernel_rfl) ?_
    refine pl_y 4 rfl (y_extract rfl rfl) rfl rfl rfl rfl (by kernel_rfl) ?_
    refine pl_y 5 rfl (y_extract rfl rfl) rfl rfl rfl rfl (by kernel_rfl) ?_
    refine pl_y 6 rfl (y_assign rfl) rfl rfl rfl rfl (by kernel_rfl) ?_
    refine pl_y 7 rfl (y_assign rfl) rfl rfl rfl rfl (by kernel_rfl) ?_
    refine pl_end (by kernel_rfl) ?_
    refine ej_th (cj_seq (cj_seq (cj_region ?_)))
    refine oj_step (y_move rfl) rfl rfl rfl ?_
    refine oj_step (y_neq rfl rfl) rfl rfl rfl ?_
    refine oj_step (y_move rfl) rfl rfl rfl ?_
    refine oj_yes rfl rfl rfl ?_
    refine oj_step (y_move rfl) rfl rfl rfl ?_
    refine oj_yes rfl rfl rfl ?_
    refine oj_step (y_neq rfl rfl) rfl rfl rfl ?_
    refine oj_step (y_pick rfl rfl rfl) rfl rfl rfl ?_
    refine oj_step (y_move rfl) rfl rfl rfl ?_
    refine oj_yes rfl rfl rfl ?_
    refine oj_step (y_move rfl) rfl rfl rfl ?_
    refine oj_yes rfl rfl rfl ?_
    refine oj_step (y_neq rfl rfl) rfl rfl rfl ?_
    refine oj_step (y_pick rfl rfl rfl) rfl rfl rfl ?_
    refine oj_step (y_move rfl) rfl rfl rfl ?_
    refine oj_yes rfl rfl rfl ?_
    refine oj_step (y_move rfl) rfl rfl rfl ?_
    refine oj_yes rfl rfl rfl ?_
    refine oj_step (y_neq rfl rfl) rfl rfl rfl ?_
    refine oj_step (y_pick rfl rfl rfl) rfl rfl rfl ?_
    refine oj_step (y_move rfl) rfl rfl rfl ?_
    refine oj_yes rfl rfl rfl ?_
    refine oj_step (y_move rfl) rfl rfl rfl ?_
    refine oj_yes rfl rfl rfl ?_
    refine oj_step (y_neqS rfl rfl) rfl rfl rfl ?_
    refine oj_step (y_pick rfl rfl rfl) rfl rfl rfl ?_
    refine oj_step (y_move rfl) rfl rfl rfl ?_
    refine oj_yes rfl rfl rfl ?_
    refine oj_step (y_move rfl) rfl rfl rfl ?_
    refine oj_yes rfl rfl rfl ?_
    refine oj_step (y_neq rfl rfl) rfl rfl rfl ?_
    refine oj_step (y_pick rfl rfl rfl) rfl rfl rfl ?_
    refine oj_step (y_move rfl) rfl rfl rfl ?_
    refine oj_yes rfl rfl rfl ?_
    refine oj_step (y_move rfl) rfl rfl rfl ?_
    refine oj_yes rfl rfl rfl ?_
    refine oj_step (y_neq rfl rfl) rfl rfl rfl ?_
    refine oj_step (y_pick rfl rfl rfl) rfl rfl rfl ?_
    refine oj_step (y_move rfl) rfl rfl rfl ?_
    refine oj_yes rfl rfl rfl ?_
    refine oj_step (y_move rfl) rfl rfl rfl ?_
    refine oj_yes rfl rfl rfl ?_
    refine oj_step (y_neqS rfl rfl) rfl rfl rfl ?_
    refine oj_step (y_pick rfl rfl rfl) rfl rfl rfl ?_
    refine oj_nil ?_
    refine ej_th ?_
    refine cj_cond rfl (fun h78 => ?_) (fun h78 => ?_)
    · exact absurd h78 (by decide)
    · have h78b := h78
      try simp only [sxb] at h78
      refine cj_skip (ej_th (cj_seq ?_))
      refine cj_plan 12 (by kernel_rfl) (by kernel_rfl) ?_
      refine pl_y 1 rfl (y_loadN Tryz.isAgg26 Tryz.sizeOf26 rfl) rfl rfl rfl rfl (by kernel_rfl) ?_
      refine pl_w1 0 (by kernel_rfl) rfl rfl (pl_fire rfl rfl rfl (by kernel_rfl) ?_)
      refine oj_call (X := GrA × Nat × Nat) (fun z => .slice (some ⟨z.1.g12, 0, none⟩) 2 2) (fun _ => []) (fun z => [clF (fun i => z.2.1 ≤ i ∧ i < z.2.2) (at0 z.1.g12) (gramV z.1)]) Tryz.call17 rfl (fun w hp => k_grammar w) rfl ?_
      rintro ⟨a80, n80, m80⟩
      dsimp only [List.nil_append, List.cons_append]
      refine oj_nil ?_
      refine ej_pl (lt_y (y_loadN Tryz.isAgg26 Tryz.sizeOf26 rfl) rfl (lt_nil)) ?_
      refine pl_w1 2 (by kernel_rfl) rfl rfl (pl_fire rfl rfl rfl (by kernel_rfl) ?_)
      refine oj_call (X := Nat) (fun x => .agg #[.string sGem, .slice (some ⟨x, 0, none⟩) 1 1, .slice none 0 0]) (fun _ => []) (fun x => [litS x 1 enStr [sOval]]) Tryz.call16 rfl (fun w hp => k_gem sOval w) rfl (fun g82 => ?_)
      dsimp only [List.nil_append, List.cons_append]
      refine oj_nil ?_
      refine ej_pl (lt_y (y_loadN Tryz.isAgg26 Tryz.sizeOf26 rfl) rfl (lt_nil)) ?_
      refine pl_w1 3 (by kernel_rfl) rfl rfl (pl_fire rfl rfl rfl (by kernel_rfl) ?_)
      refine oj_call (X := Nat) (fun x => .agg #[.string sGem, .slice (some ⟨x, 0, none⟩) 1 1, .slice none 0 0]) (fun _ => []) (fun x => [litS x 1 enStr [sRound]]) Tryz.call16 rfl (fun w hp => k_gem sRound w) rfl (fun g83 => ?_)
      dsimp only [List.nil_append, List.cons_append]
      refine oj_nil ?_
      refine ej_pl (lt_y (y_loadN Tryz.isAgg26 Tryz.sizeOf26 rfl) rfl (lt_nil)) ?_
      refine pl_w1 4 (by kernel_rfl) rfl rfl (pl_fire rfl rfl rfl (by kernel_rfl) ?_)
      refine oj_buildSlice (cs := [.string sGem, .slice (some ⟨g82, 0, none⟩) 1 1, .slice none 0 0, .string sGem, .slice (some ⟨g83, 0, none⟩) 1 1, .slice none 0 0]) [.string ⟨#[]⟩, .slice none 0 0, .slice none 0 0, .string ⟨#[]⟩, .slice none 0 0, .slice none 0 0] Tryz.underlying24 Tryz.sizeOf26 Tryz.zeroValue26 rfl rfl (by kernel_rfl) (by kernel_rfl) rfl (fun b84 => ?_)
      refine oj_nil ?_
      refine ej_pl (lt_y (y_loadN Tryz.isAgg26 Tryz.sizeOf26 rfl) rfl (lt_nil)) ?_
      refine pl_w1 5 (by kernel_rfl) rfl rfl (pl_fire rfl rfl rfl (by kernel_rfl) ?_)
      refine oj_call (X := Nat) (fun x => .agg #[.string sRing, .slice (some ⟨x, 0, none⟩) 2 2, .slice (some ⟨b84, 0, none⟩) 2 2]) (fun _ => []) (fun x => [litS x 1 enStr [sGold, sSmall]]) Tryz.call15 rfl (fun w hp => k_jewel sSmall (some ⟨b84, 0, none⟩) 2 2 w) rfl (fun j85 => ?_)
      dsimp only [List.nil_append, List.cons_append]
      refine oj_nil ?_
      refine ej_pl (lt_y (y_loadN Tryz.isAgg26 Tryz.sizeOf26 rfl) rfl (lt_nil)) ?_
      refine pl_y 6 rfl (y_call Tryz.call41 rfl (fun w hp => ew_Cov1 a80 w (hp_cl hp (fun i => n80 ≤ i ∧ i < m80) (at0 a80.g12) (gramV a80)) j23 b22 g20 g21 (ring_good (b := j23) (g := b22) (s := sNone) (parts := [gemV g20 sRound, gemV g21 sNone]) hp.rd (by decide) (hp.rdLit (b := b22) (sz := 3) (enc := encIt) [gemV g20 sRound, gemV g21 sNone] (fun _ => rfl) rfl (by unfold maxLen; simp)) (fun p hpp => by
        simp only [List.mem_cons, List.mem_nil_iff, or_false] at hpp
        rcases hpp with rfl | rfl
        · exact (gem_good (b := g20) (s := sRound) hp.rd (by decide))
        · exact (gem_good (b := g21) (s := sNone) hp.rd (by decide)))) j85 b84 g82 g83 (ring_good (b := j85) (g := b84) (s := sSmall) (parts := [gemV g82 sOval, gemV g83 sRound]) hp.rd (by decide) (hp.rdLit (b := b84) (sz := 3) (enc := encIt) [gemV g82 sOval, gemV g83 sRound] (fun _ => rfl) rfl (by unfold maxLen; simp)) (fun p hpp => by
        simp only [List.mem_cons, List.mem_nil_iff, or_false] at hpp
        rcases hpp with rfl | rfl
        · exact (gem_good (b := g82) (s := sOval) hp.rd (by decide))
        · exact (gem_good (b := g83) (s := sRound) hp.rd (by decide)))))) rfl rfl rfl rfl (by kernel_rfl) ?_
      refine pl_y 7 rfl (y_move rfl) rfl rfl rfl rfl (by kernel_rfl) ?_
      refine pl_y 8 rfl (y_extract rfl rfl) rfl rfl rfl rfl (by kernel_rfl) ?_
      refine pl_y 9 rfl (y_extract rfl rfl) rfl rfl rfl rfl (by kernel_rfl) ?_
      refine pl_y 10 rfl (y_assign rfl) rfl rfl rfl rfl (by kernel_rfl) ?_
      refine pl_y 11 rfl (y_assign rfl) rfl rfl rfl rfl (by kernel_rfl) ?_
      refine pl_end (by kernel_rfl) ?_
      refine ej_th (cj_seq ?_)
      refine cj_plan 11 (by kernel_rfl) (by kernel_rfl) ?_
      refine pl_y 1 rfl (y_loadN Tryz.isAgg26 Tryz.sizeOf26 rfl) rfl rfl rfl rfl (by kernel_rfl) ?_
      refine pl_w1 0 (by kernel_rfl) rfl rfl (pl_fire rfl rfl rfl (by kernel_rfl) ?_)
      refine oj_call (X := GrA × Nat × Nat) (fun z => .slice (some ⟨z.1.g12, 0, none⟩) 2 2) (fun _ => []) (fun z => [clF (fun i => z.2.1 ≤ i ∧ i < z.2.2) (at0 z.1.g12) (gramV z.1)]) Tryz.call17 rfl (fun w hp => k_grammar w) rfl ?_
      rintro ⟨a90, n90, m90⟩
      dsimp only [List.nil_append, List.cons_append]
      refine oj_nil ?_
      refine ej_pl (lt_y (y_loadN Tryz.isAgg26 Tryz.sizeOf26 rfl) rfl (lt_nil)) ?_
      refine pl_w1 2 (by kernel_rfl) rfl rfl (pl_fire rfl rfl rfl (by kernel_rfl) ?_)
      refine oj_call (X := Nat) (fun x => .agg #[.string sGem, .slice (some ⟨x, 0, none⟩) 1 1, .slice none 0 0]) (fun _ => []) (fun x => [litS x 1 enStr [sNone]]) Tryz.call16 rfl (fun w hp => k_gem sNone w) rfl (fun g92 => ?_)
      dsimp only [List.nil_append, List.cons_append]
      refine oj_nil ?_
      refine ej_pl (lt_y (y_loadN Tryz.isAgg26 Tryz.sizeOf26 rfl) rfl (lt_nil)) ?_
      refine pl_w1 3 (by kernel_rfl) rfl rfl (pl_fire rfl rfl rfl (by kernel_rfl) ?_)
      refine oj_buildSlice (cs := [.string sGem, .slice (some ⟨g92, 0, none⟩) 1 1, .slice none 0 0]) [.string ⟨#[]⟩, .slice none 0 0, .slice none 0 0] Tryz.underlying24 Tryz.sizeOf26 Tryz.zeroValue26 rfl rfl (by kernel_rfl) (by kernel_rfl) rfl (fun b93 => ?_)
      refine oj_nil ?_
      refine ej_pl (lt_y (y_loadN Tryz.isAgg26 Tryz.sizeOf26 rfl) rfl (lt_nil)) ?_
      refine pl_w1 4 (by kernel_rfl) rfl rfl (pl_fire rfl rfl rfl (by kernel_rfl) ?_)
      refine oj_call (X := Nat) (fun x => .agg #[.string sRing, .slice (some ⟨x, 0, none⟩) 2 2, .slice (some ⟨b93, 0, none⟩) 1 1]) (fun _ => []) (fun x => [litS x 1 enStr [sGold, sNone]]) Tryz.call15 rfl (fun w hp => k_jewel sNone (some ⟨b93, 0, none⟩) 1 1 w) rfl (fun j94 => ?_)
      dsimp only [List.nil_append, List.cons_append]
      refine oj_nil ?_
      refine ej_pl (lt_y (y_loadN Tryz.isAgg26 Tryz.sizeOf26 rfl) rfl (lt_nil)) ?_
      refine pl_y 5 rfl (y_call Tryz.call41 rfl (fun w hp => ew_Cov2 a90 w (hp_cl hp (fun i => n90 ≤ i ∧ i < m90) (at0 a90.g12) (gramV a90)) j23 b22 g20 g21 (ring_good (b := j23) (g := b22) (s := sNone) (parts := [gemV g20 sRound, gemV g21 sNone]) hp.rd (by decide) (hp.rdLit (b := b22) (sz := 3) (enc := encIt) [gemV g20 sRound, gemV g21 sNone] (fun _ => rfl) rfl (by unfold maxLen; simp)) (fun p hpp => by
        simp only [List.mem_cons, List.mem_nil_iff, or_false] at hpp
        rcases hpp with rfl | rfl
        · exact (gem_good (b := g20) (s := sRound) hp.rd (by decide))
        · exact (gem_good (b := g21) (s := sNone) hp.rd (by decide)))) j94 b93 g92 (ring_good (b := j94) (g := b93) (s := sNone) (parts := [gemV g92 sNone]) hp.rd (by decide) (hp.rdLit (b := b93) (sz := 3) (enc := encIt) [gemV g92 sNone] (fun _ => rfl) rfl (by unfold maxLen; simp)) (fun p hpp => by
        simp only [List.mem_cons, List.mem_nil_iff, or_false] at hpp
        rcases hpp with rfl
        · exact (gem_good (b := g92) (s := sNone) hp.rd (by decide)))))) rfl rfl rfl rfl (by kernel_rfl) ?_
      refine pl_y 6 rfl (y_move rfl) rfl rfl rfl rfl (by kernel_rfl) ?_
      refine pl_y 7 rfl (y_extract rfl rfl) rfl rfl rfl rfl (by kernel_rfl) ?_
      refine pl_y 8 rfl (y_extract rfl rfl) rfl rfl rfl rfl (by kernel_rfl) ?_
      refine pl_y 9 rfl (y_assign rfl) rfl rfl rfl rfl (by kernel_rfl) ?_
      refine pl_y 10 rfl (y_assign rfl) rfl rfl rfl rfl (by kernel_rfl) ?_
      refine pl_end (by kernel_rfl) ?_
      refine ej_th (cj_seq (cj_region ?_))
      refine oj_call (X := Nat × Nat × Nat × Nat × Nat) (fun z => .agg #[.slice (some ⟨z.1, 0, none⟩) 2 2, .slice (some ⟨z.2.1, 0, none⟩) 2 2, .slice (some ⟨z.2.2.1, 0, none⟩) 2 2]) (fun _ => []) (fun z => [litS z.1 2 encMe mEx, litS z.2.1 1 enInt tEx, litS z.2.2.1 1 encFk (fEx z.2.2.2.1 z.2.2.2.2), litS z.2.2.2.1 2 encSp [⟨90, 93⟩, ⟨900, 1100⟩], litS z.2.2.2.2 2 encSp [⟨95, 105⟩, ⟨1016, 1030⟩]]) Tryz.call19 rfl (fun w hp => k_skillEx w) rfl ?_
      rintro ⟨mm, mt, mf, m1, m2⟩
      dsimp only [List.nil_append, List.cons_append]
      refine oj_alloc Tryz.zeroValue52 rfl rfl (fun b13 => ?_)
      refine oj_store rfl rfl rfl rfl Tryz.sizeOf52 rfl ?_
      refine oj_nil ?_
      refine ej_th (cj_seq (cj_region ?_))
      refine oj_step (y_fa0 fa52_0 rfl) rfl rfl rfl ?_
      refine oj_step (y_load1 Tryz.isAgg48 rfl rfl) rfl rfl rfl ?_
      refine oj_buildSlice (cs := [.int .i64 100, .int .i64 1000]) [.int .i64 0, .int .i64 0] Tryz.underlying49 Tryz.sizeOf3 Tryz.zeroValue3 rfl rfl (by kernel_rfl) (by kernel_rfl) rfl (fun b102 => ?_)
      refine oj_buildSlice (cs := [.int .i64 103, .int .i64 (-1)]) [.int .i64 0, .int .i64 0] Tryz.underlying49 Tryz.sizeOf3 Tryz.zeroValue3 rfl rfl (by kernel_rfl) (by kernel_rfl) rfl (fun b103 => ?_)
      refine oj_buildSlice (cs := [.slice (some ⟨b102, 0, none⟩) 2 2, .slice (some ⟨b103, 0, none⟩) 2 2]) [.slice none 0 0, .slice none 0 0] Tryz.underlying57 Tryz.sizeOf49 Tryz.zeroValue49 rfl rfl (by kernel_rfl) (by kernel_rfl) rfl (fun b104 => ?_)
      refine oj_callS (fun A c => .tuple #[.slice A ([⟨101, 102⟩, ⟨995, 1005⟩] : List Span).length c, .int .i64 0]) 2 encSp ([⟨101, 102⟩, ⟨995, 1005⟩] : List Span) Tryz.call20 rfl (fun w hp => ew_Narrow (some ⟨mm, 0, none⟩) (some ⟨b104, 0, none⟩) b102 b103 w hp.rd (hp.rdLit (b := b104) (sz := 1) (enc := encLs) (rEx b102 b103) (fun _ => rfl) rfl (by unfold maxLen; simp)) (fun r hr => by
        simp only [List.mem_cons, List.mem_nil_iff, or_false] at hr
        rcases hr with rfl | rfl
        · exact (hp.rdLit (b := b102) (sz := 1) (enc := enInt) [100, 1000] (fun _ => rfl) rfl (by unfold maxLen; simp))
        · exact (hp.rdLit (b := b103) (sz := 1) (enc := enInt) [103, -1] (fun _ => rfl) rfl (by unfold maxLen; simp)))) rfl (fun A105 c105 fp105 hfp105 => ?_)
      refine oj_step (y_move rfl) rfl rfl rfl ?_
      refine oj_step (y_extract rfl rfl) rfl rfl rfl ?_
      refine oj_step (y_extract rfl rfl) rfl rfl rfl ?_
      refine oj_step (y_assign rfl) rfl rfl rfl ?_
      refine oj_step (y_assign rfl) rfl rfl rfl ?_
      refine oj_nil ?_
      refine ej_th (cj_seq (cj_region ?_))
      refine oj_step (y_fa0 fa52_0 rfl) rfl rfl rfl ?_
      refine oj_step (y_load1 Tryz.isAgg48 rfl rfl) rfl rfl rfl ?_
      refine oj_step (y_fa fa52_1 rfl) rfl rfl rfl ?_
      refine oj_step (y_load1 Tryz.isAgg49 rfl rfl) rfl rfl rfl ?_
      refine oj_step (y_fa fa52_2 rfl) rfl rfl rfl ?_
      refine oj_step (y_load1 Tryz.isAgg50 rfl rfl) rfl rfl rfl ?_
      refine oj_callS (fun A c => .tuple #[.slice A ([0, 1] : List Int).length c, .int .i64 5, .int .i64 0]) 1 enInt ([0, 1] : List Int) Tryz.call24 rfl (fun w hp => ew_Least (some ⟨mm, 0, none⟩) (some ⟨mt, 0, none⟩) (some ⟨mf, 0, none⟩) m1 m2 w hp.rd hp.rd hp.rd (fun f hff => by
        simp only [List.mem_cons, List.mem_nil_iff, or_false] at hff
        rcases hff with rfl | rfl
        · exact hp.rd
        · exact hp.rd)) rfl (fun A115 c115 fp115 hfp115 => ?_)
      refine oj_step (y_move rfl) rfl rfl rfl ?_
      refine oj_step (y_extract rfl rfl) rfl rfl rfl ?_
      refine oj_step (y_extract rfl rfl) rfl rfl rfl ?_
      refine oj_step (y_extract rfl rfl) rfl rfl rfl ?_
      refine oj_step (y_assign rfl) rfl rfl rfl ?_
      refine oj_step (y_assign rfl) rfl rfl rfl ?_
      refine oj_step (y_assign rfl) rfl rfl rfl ?_
      refine oj_nil ?_
      refine ej_th (cj_seq (cj_seq (cj_region ?_)))
      refine oj_step (y_move rfl) rfl rfl rfl ?_
      refine oj_step (y_neq rfl rfl) rfl rfl rfl ?_
      refine oj_step (y_move rfl) rfl rfl rfl ?_
      refine oj_yes rfl rfl rfl ?_
      refine oj_step (y_move rfl) rfl rfl rfl ?_
      refine oj_yes rfl rfl rfl ?_
      refine oj_step (y_neq rfl rfl) rfl rfl rfl ?_
      refine oj_step (y_pick rfl rfl rfl) rfl rfl rfl ?_
      refine oj_step (y_move rfl) rfl rfl rfl ?_
      refine oj_yes rfl rfl rfl ?_
      refine oj_step (y_move rfl) rfl rfl rfl ?_
      refine oj_yes rfl rfl rfl ?_
      refine oj_step (y_neq rfl rfl) rfl rfl rfl ?_
      refine oj_step (y_pick rfl rfl rfl) rfl rfl rfl ?_
      refine oj_step (y_move rfl) rfl rfl rfl ?_
      refine oj_yes rfl rfl rfl ?_
      refine oj_step (y_move rfl) rfl rfl rfl ?_
      refine oj_yes rfl rfl rfl ?_
      refine oj_step (y_neq rfl rfl) rfl rfl rfl ?_
      refine oj_step (y_pick rfl rfl rfl) rfl rfl rfl ?_
      refine oj_step (y_move rfl) rfl rfl rfl ?_
      refine oj_yes rfl rfl rfl ?_
      refine oj_step (y_move rfl) rfl rfl rfl ?_
      refine oj_yes rfl rfl rfl ?_
      refine oj_step (y_not rfl) rfl rfl rfl ?_
      refine oj_step (y_pick rfl rfl rfl) rfl rfl rfl ?_
      refine oj_step (y_move rfl) rfl rfl rfl ?_
      refine oj_yes rfl rfl rfl ?_
      refine oj_step (y_move rfl) rfl rfl rfl ?_
      refine oj_step (y_pick rfl rfl rfl) rfl rfl rfl ?_
      refine oj_step (y_move rfl) rfl rfl rfl ?_
      refine oj_yes rfl rfl rfl ?_
      refine oj_step (y_move rfl) rfl rfl rfl ?_
      refine oj_yes rfl rfl rfl ?_
      refine oj_step (y_build (cs := [.int .i64 101, .int .i64 102]) st70 rfl (by kernel_rfl)) rfl rfl rfl ?_
      refine oj_yes rfl rfl rfl ?_
      refine oj_step (y_build (cs := [.int .i64 995, .int .i64 1005]) st70 rfl (by kernel_rfl)) rfl rfl rfl ?_
      refine oj_yes rfl rfl rfl ?_
      refine oj_buildSlice (cs := [.int .i64 101, .int .i64 102, .int .i64 995, .int .i64 1005]) [.int .i64 0, .int .i64 0, .int .i64 0, .int .i64 0] Tryz.underlying54 Tryz.sizeOf70 Tryz.zeroValue70 rfl rfl (by kernel_rfl) (by kernel_rfl) rfl (fun b144 => ?_)
      refine oj_yes rfl rfl rfl ?_
      refine oj_step (y_call Tryz.call42 rfl (fun w hp => k_SameSp ([⟨101, 102⟩, ⟨995, 1005⟩] : List Span) ([⟨101, 102⟩, ⟨995, 1005⟩] : List Span) A105 (some ⟨b144, 0, none⟩) c105 2 w hp.rd (hp.rdLit (b := b144) (sz := 2) (enc := encSp) ([⟨101, 102⟩, ⟨995, 1005⟩] : List Span) (fun _ => rfl) rfl (by unfold maxLen; simp)))) rfl rfl rfl ?_
      refine oj_yes rfl rfl rfl ?_
      refine oj_step (y_not rfl) rfl rfl rfl ?_
      refine oj_step (y_pick rfl rfl rfl) rfl rfl rfl ?_
      refine oj_step (y_move rfl) rfl rfl rfl ?_
      refine oj_yes rfl rfl rfl ?_
      refine oj_step (y_move rfl) rfl rfl rfl ?_
      refine oj_yes rfl rfl rfl ?_
      refine oj_buildSlice (cs := [.int .i64 0, .int .i64 1]) [.int .i64 0, .int .i64 0] Tryz.underlying49 Tryz.sizeOf3 Tryz.zeroValue3 rfl rfl (by kernel_rfl) (by kernel_rfl) rfl (fun b150 => ?_)
      refine oj_yes rfl rfl rfl ?_
      refine oj_step (y_call Tryz.call26 rfl (fun w hp => k_Same ([0, 1] : List Int) ([0, 1] : List Int) A115 (some ⟨b150, 0, none⟩) c115 2 w hp.rd (hp.rdLit (b := b150) (sz := 1) (enc := enInt) ([0, 1] : List Int) (fun _ => rfl) rfl (by unfold maxLen; simp)))) rfl rfl rfl ?_
      refine oj_yes rfl rfl rfl ?_
      refine oj_step (y_not rfl) rfl rfl rfl ?_
      refine oj_step (y_pick rfl rfl rfl) rfl rfl rfl ?_
      refine oj_step (y_move rfl) rfl rfl rfl ?_
      refine oj_yes rfl rfl rfl ?_
      refine oj_step (y_move rfl) rfl rfl rfl ?_
      refine oj_yes rfl rfl rfl ?_
      refine oj_step (y_neq rfl rfl) rfl rfl rfl ?_
      refine oj_step (y_pick rfl rfl rfl) rfl rfl rfl ?_
      refine oj_nil ?_
      refine ej_th ?_
      refine cj_cond rfl (fun h157 => ?_) (fun h157 => ?_)
      · exact absurd h157 (by decide)
      · have h157b := h157
        try simp only [sxb] at h157
        refine cj_skip (ej_th (cj_seq ?_))
        refine cj_plan 14 (by kernel_rfl) (by kernel_rfl) ?_
        refine pl_y 0 rfl (y_fa0 fa52_0 rfl) rfl rfl rfl rfl (by kernel_rfl) ?_
        refine pl_y 1 rfl (y_load1 Tryz.isAgg48 rfl rfl) rfl rfl rfl rfl (by kernel_rfl) ?_
        refine pl_y 2 rfl (y_fa fa52_1 rfl) rfl rfl rfl rfl (by kernel_rfl) ?_
        refine pl_y 3 rfl (y_load1 Tryz.isAgg49 rfl rfl) rfl rfl rfl rfl (by kernel_rfl) ?_
        refine pl_y 4 rfl (y_fa fa52_2 rfl) rfl rfl rfl rfl (by kernel_rfl) ?_
        refine pl_y 5 rfl (y_load1 Tryz.isAgg50 rfl rfl) rfl rfl rfl rfl (by kernel_rfl) ?_
        refine pl_y 6 rfl (y_ixR (reads_sl (xs := fEx m1 m2) (enc := encFk) (sz := 1)) Tryz.underlying50 Tryz.sizeOf63 rfl rfl ⟨by decide, show (0 : Int) < ((2 : Nat) : Int) by decide⟩) rfl rfl rfl rfl (by kernel_rfl) ?_
        refine pl_y 7 rfl (y_ldW (reads_sl) Tryz.isAgg63 Tryz.sizeOf63 rfl (rfl) (fun _ => rfl)) rfl rfl rfl rfl (by kernel_rfl) ?_
        refine pl_w1 8 (by kernel_rfl) rfl rfl (pl_fire rfl rfl rfl (by kernel_rfl) ?_)
        refine oj_callS (fun A c => .tuple #[.slice A ([0] : List Int).length c, .int .i64 0]) 1 enInt ([0] : List Int) Tryz.call22 rfl (fun w hp => ew_Finds (some ⟨mm, 0, none⟩) (some ⟨mt, 0, none⟩) m1 w hp.rd hp.rd hp.rd) rfl (fun A167 c167 fp167 hfp167 => ?_)
        refine oj_nil ?_
        refine ej_pl (lt_w (by kernel_rfl) (lt_y (y_ixR (reads_sl (xs := fEx m1 m2) (enc := encFk) (sz := 1)) Tryz.underlying50 Tryz.sizeOf63 rfl rfl ⟨by decide, show (0 : Int) < ((2 : Nat) : Int) by decide⟩) rfl (lt_y (y_load1 Tryz.isAgg50 rfl rfl) rfl (lt_y (y_fa fa52_2 rfl) rfl (lt_w (by kernel_rfl) (lt_y (y_fa fa52_1 rfl) rfl (lt_w (by kernel_rfl) (lt_y (y_fa0 fa52_0 rfl) rfl (lt_nil))))))))) ?_
        refine pl_y 9 rfl (y_move rfl) rfl rfl rfl rfl (by kernel_rfl) ?_
        refine pl_y 10 rfl (y_extract rfl rfl) rfl rfl rfl rfl (by kernel_rfl) ?_
        refine pl_y 11 rfl (y_extract rfl rfl) rfl rfl rfl rfl (by kernel_rfl) ?_
        refine pl_y 12 rfl (y_assign rfl) rfl rfl rfl rfl (by kernel_rfl) ?_
        refine pl_y 13 rfl (y_assign rfl) rfl rfl rfl rfl (by kernel_rfl) ?_
        refine pl_end (by kernel_rfl) ?_
        refine ej_th (cj_seq (cj_region ?_))
        refine oj_step (y_fa0 fa52_0 rfl) rfl rfl rfl ?_
        refine oj_step (y_load1 Tryz.isAgg48 rfl rfl) rfl rfl rfl ?_
        refine oj_step (y_fa fa52_1 rfl) rfl rfl rfl ?_
        refine oj_step (y_load1 Tryz.isAgg49 rfl rfl) rfl rfl rfl ?_
        refine oj_buildSlice (cs := [.int .i64 104, .int .i64 1010]) [.int .i64 0, .int .i64 0] Tryz.underlying49 Tryz.sizeOf3 Tryz.zeroValue3 rfl rfl (by kernel_rfl) (by kernel_rfl) rfl (fun b175 => ?_)
        refine oj_step (y_call Tryz.call21 rfl (fun w hp => ew_Agree (some ⟨mm, 0, none⟩) (some ⟨mt, 0, none⟩) (some ⟨b175, 0, none⟩) w hp.rd hp.rd (hp.rdLit (b := b175) (sz := 1) (enc := enInt) [104, 1010] (fun _ => rfl) rfl (by unfold maxLen; simp)))) rfl rfl rfl ?_
        refine oj_step (y_move rfl) rfl rfl rfl ?_
        refine oj_step (y_extract rfl rfl) rfl rfl rfl ?_
        refine oj_step (y_extract rfl rfl) rfl rfl rfl ?_
        refine oj_step (y_assign rfl) rfl rfl rfl ?_
        refine oj_step (y_assign rfl) rfl rfl rfl ?_
        refine oj_nil ?_
        refine ej_th (cj_seq (cj_region ?_))
        refine oj_step (y_fa0 fa52_0 rfl) rfl rfl rfl ?_
        refine oj_step (y_load1 Tryz.isAgg48 rfl rfl) rfl rfl rfl ?_
        refine oj_step (y_fa fa52_1 rfl) rfl rfl rfl ?_
        refine oj_step (y_load1 Tryz.isAgg49 rfl rfl) rfl rfl rfl ?_
        refine oj_step (y_fa fa52_2 rfl) rfl rfl rfl ?_
        refine oj_step (y_load1 Tryz.isAgg50 rfl rfl) rfl rfl rfl ?_
        refine oj_buildSlice (cs := [.int .i64 1, .int .i64 4]) [.int .i64 0, .int .i64 0] Tryz.underlying49 Tryz.sizeOf3 Tryz.zeroValue3 rfl rfl (by kernel_rfl) (by kernel_rfl) rfl (fun b186 => ?_)
        refine oj_step (y_call Tryz.call25 rfl (fun w hp => ew_Bound (some ⟨mm, 0, none⟩) (some ⟨mt, 0, none⟩) (some ⟨mf, 0, none⟩) (some ⟨b186, 0, none⟩) m1 m2 w hp.rd hp.rd hp.rd (fun f hff => by
          simp only [List.mem_cons, List.mem_nil_iff, or_false] at hff
          rcases hff with rfl | rfl
          · exact hp.rd
          · exact hp.rd) (hp.rdLit (b := b186) (sz := 1) (enc := enInt) [1, 4] (fun _ => rfl) rfl (by unfold maxLen; simp)))) rfl rfl rfl ?_
        refine oj_step (y_move rfl) rfl rfl rfl ?_
        refine oj_step (y_extract rfl rfl) rfl rfl rfl ?_
        refine oj_step (y_extract rfl rfl) rfl rfl rfl ?_
        refine oj_step (y_assign rfl) rfl rfl rfl ?_
        refine oj_step (y_assign rfl) rfl rfl rfl ?_
        refine oj_nil ?_
        refine ej_th (cj_seq (cj_region ?_))
        refine oj_step (y_move rfl) rfl rfl rfl ?_
        refine oj_step (y_eql rfl rfl) rfl rfl rfl ?_
        refine oj_step (y_move rfl) rfl rfl rfl ?_
        refine oj_yes rfl rfl rfl ?_
        refine oj_step (y_move rfl) rfl rfl rfl ?_
        refine oj_yes rfl rfl rfl ?_
        refine oj_step (y_eql rfl rfl) rfl rfl rfl ?_
        refine oj_step (y_pick rfl rfl rfl) rfl rfl rfl ?_
        refine oj_step (y_move rfl) rfl rfl rfl ?_
        refine oj_yes rfl rfl rfl ?_
        refine oj_step (y_move rfl) rfl rfl rfl ?_
        refine oj_yes rfl rfl rfl ?_
        refine oj_step (y_eql rfl rfl) rfl rfl rfl ?_
        refine oj_step (y_pick rfl rfl rfl) rfl rfl rfl ?_
        refine oj_step (y_move rfl) rfl rfl rfl ?_
        refine oj_yes rfl rfl rfl ?_
        refine oj_step (y_move rfl) rfl rfl rfl ?_
        refine oj_yes rfl rfl rfl ?_
        refine oj_buildSlice (cs := [.int .i64 0]) [.int .i64 0] Tryz.underlying49 Tryz.sizeOf3 Tryz.zeroValue3 rfl rfl (by kernel_rfl) (by kernel_rfl) rfl (fun b202 => ?_)
        refine oj_yes rfl rfl rfl ?_
        refine oj_step (y_call Tryz.call26 rfl (fun w hp => k_Same ([0] : List Int) ([0] : List Int) A167 (some ⟨b202, 0, none⟩) c167 1 w hp.rd (hp.rdLit (b := b202) (sz := 1) (enc := enInt) ([0] : List Int) (fun _ => rfl) rfl (by unfold maxLen; simp)))) rfl rfl rfl ?_
        refine oj_step (y_pick rfl rfl rfl) rfl rfl rfl ?_
        refine oj_step (y_move rfl) rfl rfl rfl ?_
        refine oj_yes rfl rfl rfl ?_
        refine oj_step (y_move rfl) rfl rfl rfl ?_
        refine oj_step (y_pick rfl rfl rfl) rfl rfl rfl ?_
        refine oj_step (y_move rfl) rfl rfl rfl ?_
        refine oj_yes rfl rfl rfl ?_
        refine oj_step (y_move rfl) rfl rfl rfl ?_
        refine oj_yes rfl rfl rfl ?_
        refine oj_step (y_eql rfl rfl) rfl rfl rfl ?_
        refine oj_step (y_pick rfl rfl rfl) rfl rfl rfl ?_
        refine oj_step (y_assign rfl) rfl rfl rfl ?_
        refine oj_nil ?_
        refine ej_th (cj_ret ?_)
        exact ej_ret1 rfl Tryz.results11 rfl (fun w' hp => ⟨rfl, hp.below⟩)

end Go.Proofs.YtlfbghkcfmcnlaaGreatDoor
namespace Go.Proofs.YtlfbghkcfmcnlaaGreatDoor
open Go.Sx Go.RowKit
set_option maxRecDepth 20000
theorem k_SeekText (l : List ByteArray) (A : Option Addr) (c : Nat) (s : ByteArray) (w : World) (hl : Rd w 1 enStr A l) : Calls Tryz.prog 74 #[.slice A l.length c, .string s] w (fun e w' => e = .returned (.int .i64 (firstS s l 0)) ∧ Grow w w') := by
  have hlen := hl.len
  refine enter_pure (args := [.slice A l.length c, .string s]) [sl (fun b => b < w.heap.size) 1 enStr A l] Tryz.func74 rfl (by rw [Tryz.ntmps74]; simp) (fun g hg => by simp at hg; subst hg; exact ⟨hl, fun _ h => h⟩) ?_
  refine cj_seq ?_
  refine cj_regionG (gj_step (y_assign rfl) rfl rfl rfl (gj_nil ?_))
  refine ej_th (cj_seq (cj_seq ?_))
  refine cj_regionG (gj_step (y_assign rfl) rfl rfl rfl (gj_nil ?_))
  refine ej_th (cj_block ?_)
  refine cj_lpic (X := Nat) [(0, _), (1, _)] (fun k => k ≤ l.length ∧ firstS s (l.drop k) k = firstS s l 0) (fun k => [(5, .int .i64 k)]) (fun k => l.length - k) 0 (⟨Nat.zero_le _, rfl⟩) ⟨rfl, rfl, rfl, trivial⟩ ?_
  rintro k ⟨hk, hsk⟩
  dsimp only [List.cons_append, List.nil_append]
  refine cj_seq (cj_seq ?_)
  refine cj_regionG (gj_step (y_move rfl) rfl rfl rfl (gj_step (y_move rfl) rfl rfl rfl (gj_step (y_lenA Tryz.underlying23 rfl) rfl rfl rfl (gj_step (y_lss rfl rfl) rfl rfl rfl (gj_nil ?_)))))
  refine ej_th ?_
  refine cj_cond rfl (fun h9 => ?_) (fun h9 => ?_)
  · have h9b := h9
    try simp only [sxb] at h9
    obtain ⟨x, hx⟩ : ∃ x, l[k]? = some x := ⟨_, List.getElem?_eq_getElem (by omega)⟩
    rw [firstS_drop s l k x hx] at hsk
    refine cj_skip (ej_th (cj_seq (cj_block (cj_seq ?_))))
    refine cj_regionG (gj_step (y_move rfl) rfl rfl rfl (gj_step (y_move rfl) rfl rfl rfl (gj_step (y_ixR (reads_sl) Tryz.underlying23 Tryz.sizeOf9 rfl rfl (⟨by omega, by omega⟩)) rfl rfl rfl (gj_step (y_ld0 (reads_sl) Tryz.isAgg9 rfl (hx) rfl) rfl rfl rfl (gj_step (y_move rfl) rfl rfl rfl (gj_step (y_eqlS rfl rfl) rfl rfl rfl (gj_nil ?_)))))))
    refine ej_th ?_
    refine cj_cond rfl (fun h17 => ?_) (fun h17 => ?_)
    · have h17b := h17
      try simp only [sxb] at h17
      refine cj_seq ?_
      refine cj_regionG (gj_step (y_move rfl) rfl rfl rfl (gj_step (y_assign rfl) rfl rfl rfl (gj_nil ?_)))
      refine ej_th (cj_ret (ej_blk_ret (ej_then_ret (ej_then_ret (ej_blk_ret (ej_then_ret ?_))))))
      refine ej_ret1 rfl Tryz.results74 rfl (fun w' hp => ⟨?_, hp.below⟩)
      rw [← hsk, if_pos (bytes_eq h17)]
    · have h17b := h17
      try simp only [sxb] at h17
      refine cj_skip (ej_blk (ej_th ?_))
      refine cj_regionG (gj_step (y_move rfl) rfl rfl rfl (gj_step (y_add rfl rfl (by omega)) rfl rfl rfl (gj_step (y_assign rfl) rfl rfl rfl (gj_nil ?_))))
      exact ej_nx (k + 1) (by omega) ⟨by omega, by rw [← hsk, if_neg (bytes_ne h17)]⟩ ⟨rfl, rfl, rfl, trivial⟩
  · have h9b := h9
    try simp only [sxb] at h9
    refine cj_exit (ej_then_exit (ej_then_exit (ej_blk_hit (ej_th (cj_seq ?_)))))
    refine cj_regionG (gj_step (y_assign rfl) rfl rfl rfl (gj_nil ?_))
    refine ej_th (cj_ret ?_)
    refine ej_ret1 rfl Tryz.results74 rfl (fun w' hp => ⟨?_, hp.below⟩)
    rw [← hsk, List.drop_of_length_le (by omega)]; rfl

theorem k_different (l : List ByteArray) (A : Option Addr) (c : Nat) (w : World) (hl : Rd w 1 enStr A l) (hsm : smS l) : Calls Tryz.prog 71 #[.slice A l.length c] w (fun e w' => e = .returned (.bool (wordsB l)) ∧ Grow w w') := by
  have hlen := hl.len
  refine enter_pure (args := [.slice A l.length c]) [sl (fun b => b < w.heap.size) 1 enStr A l] Tryz.func71 rfl (by rw [Tryz.ntmps71]; simp) (fun g hg => by simp at hg; subst hg; exact ⟨hl, fun _ h => h⟩) ?_
  refine cj_seq ?_
  refine cj_regionG (gj_step (y_assign rfl) rfl rfl rfl (gj_nil ?_))
  refine ej_th (cj_seq (cj_seq ?_))
  refine cj_regionG (gj_step (y_assign rfl) rfl rfl rfl (gj_nil ?_))
  refine ej_th (cj_block ?_)
  refine cj_lpic (X := Nat) [(0, _)] (fun k => k ≤ l.length ∧ diffG l (l.drop k) k = wordsB l) (fun k => [(3, .int .i64 k)]) (fun k => l.length - k) 0 (⟨Nat.zero_le _, diff_words l⟩) ⟨rfl, rfl, trivial⟩ ?_
  rintro k ⟨hk, hsk⟩
  dsimp only [List.cons_append, List.nil_append]
  refine cj_seq (cj_seq ?_)
  refine cj_regionG (gj_step (y_move rfl) rfl rfl rfl (gj_step (y_move rfl) rfl rfl rfl (gj_step (y_lenA Tryz.underlying23 rfl) rfl rfl rfl (gj_step (y_lss rfl rfl) rfl rfl rfl (gj_nil ?_)))))
  refine ej_th ?_
  refine cj_cond rfl (fun h7 => ?_) (fun h7 => ?_)
  · have h7b := h7
    try simp only [sxb] at h7
    obtain ⟨x, hx⟩ : ∃ x, l[k]? = some x := ⟨_, List.getElem?_eq_getElem (by omega)⟩
    rw [diffG_drop l l k x hx] at hsk
    refine cj_skip (ej_th (cj_seq (cj_block (cj_seq ?_))))
    refine cj_regionG ?_
    refine gj_step (y_move rfl) rfl rfl rfl (gj_step (y_move rfl) rfl rfl rfl (gj_step (y_ixR (reads_sl) Tryz.underlying23 Tryz.sizeOf9 rfl rfl (⟨by omega, by omega⟩)) rfl rfl rfl (gj_step (y_ld0 (reads_sl) Tryz.isAgg9 rfl (hx) rfl) rfl rfl rfl (?_))))
    refine gj_step (y_call Tryz.call88 rfl (fun w hp => k_rIsWord _ w (hsm x (List.mem_of_getElem? hx)))) rfl rfl rfl ?_
    refine gj_step (y_not rfl) rfl rfl rfl (gj_step (y_move rfl) rfl rfl rfl (?_))
    refine gj_g 8 16 24 rfl rfl rfl rfl (fun hg16 => gj_yes rfl rfl rfl (y_move rfl) rfl rfl (gj_yes rfl rfl rfl (y_move rfl) rfl rfl (gj_yes rfl rfl rfl (y_move rfl) rfl rfl (gj_yes rfl rfl rfl (y_ixR (reads_sl) Tryz.underlying23 Tryz.sizeOf9 rfl rfl (⟨by omega, by omega⟩)) rfl rfl (gj_yes rfl rfl rfl (y_ld0 (reads_sl) Tryz.isAgg9 rfl (hx) rfl) rfl rfl (gj_yes rfl rfl rfl (y_call Tryz.call74 rfl (fun w hp => k_SeekText l A c x w hp.rd)) rfl rfl (gj_yes rfl rfl rfl (y_move rfl) rfl rfl (gj_yes rfl rfl rfl (y_neq rfl rfl) rfl rfl (gj_nil rfl))))))))) ?_
    refine gj_step (y_or rfl rfl rfl) rfl rfl rfl (?_)
    refine gj_nil ?_
    refine ej_th ?_
    refine cj_cond rfl (fun h25 => ?_) (fun h25 => ?_)
    · have h25b := h25
      try simp only [sxb] at h25
      refine cj_seq ?_
      refine cj_regionG (gj_step (y_assign rfl) rfl rfl rfl (gj_nil ?_))
      refine ej_th (cj_ret (ej_blk_ret (ej_then_ret (ej_then_ret (ej_blk_ret (ej_then_ret ?_))))))
      refine ej_ret1 rfl Tryz.results71 rfl (fun w' hp => ⟨?_, hp.below⟩)
      rw [← hsk, not_t ((diff_V _ _ _).symm.trans h25b)]; rfl
    · have h25b := h25
      try simp only [sxb] at h25
      refine cj_skip (ej_blk (ej_th ?_))
      refine cj_regionG (gj_step (y_move rfl) rfl rfl rfl (gj_step (y_add rfl rfl (by omega)) rfl rfl rfl (gj_step (y_assign rfl) rfl rfl rfl (gj_nil ?_))))
      exact ej_nx (k + 1) (by omega) ⟨by omega, by rw [← hsk, not_f ((diff_V _ _ _).symm.trans h25b), Bool.true_and]⟩ ⟨rfl, rfl, trivial⟩
  · have h7b := h7
    try simp only [sxb] at h7
    refine cj_exit (ej_then_exit (ej_then_exit (ej_blk_hit (ej_th (cj_seq ?_)))))
    refine cj_regionG (gj_step (y_assign rfl) rfl rfl rfl (gj_nil ?_))
    refine ej_th (cj_ret ?_)
    refine ej_ret1 rfl Tryz.results71 rfl (fun w' hp => ⟨?_, hp.below⟩)
    rw [← hsk, List.drop_of_length_le (by omega)]; rfl

theorem k_names (l : List ClassV) (A : Option Addr) (c : Nat) (w : World) (hl : Rd w 4 encCl A l) (h12 : l.length ≤ 12) : Calls Tryz.prog 72 #[.slice A l.length c] w (fun e w' => ∃ A c, e = .returned (.slice A (namesC l).length c) ∧ Grow w w' ∧ Res w w' 1 enStr A (namesC l)) := by
  have hlen := hl.len
  refine enter_pure (args := [.slice A l.length c]) [sl (fun b => b < w.heap.size) 4 encCl A l] Tryz.func72 rfl (by rw [Tryz.ntmps72]; simp) (fun g hg => by simp at hg; subst hg; exact ⟨hl, fun _ h => h⟩) ?_
  refine cj_seq ?_
  refine cj_regionG (gj_step (y_assign rfl) rfl rfl rfl (gj_nil ?_))
  refine ej_th (cj_seq ?_)
  refine cj_regionG (gj_step (y_assign rfl) rfl rfl rfl (gj_nil ?_))
  refine ej_th (cj_seq (cj_seq ?_))
  refine cj_regionG (gj_step (y_assign rfl) rfl rfl rfl (gj_nil ?_))
  refine ej_th (cj_block ?_)
  refine cj_ownNil 9 1 enStr ?_
  refine cj_lpi (X := Nat × Option Addr × Nat × List ByteArray) [(0, _), (2, _)] (fun ⟨k, A1, c1, xs⟩ => k ≤ l.length ∧ xs = namesC (l.take k)) (fun ⟨k, A1, c1, xs⟩ => [(3, .slice A1 xs.length c1), (4, .int .i64 k)]) (fun ⟨k, A1, c1, xs⟩ => [ow 9 1 enStr A1 c1 xs]) (fun ⟨k, A1, c1, xs⟩ => [sl (fun b => b < w.heap.size) 4 encCl A l]) (fun ⟨k, A1, c1, xs⟩ => l.length - k) (0, none, 0, []) (⟨Nat.zero_le _, rfl⟩) ⟨rfl, rfl, rfl, rfl, trivial⟩ ?_
  rintro ⟨k, A1, c1, xs⟩ ⟨hk, hxs⟩
  dsimp only [List.cons_append, List.nil_append]
  refine cj_seq (cj_seq ?_)
  refine cj_regionG (gj_step (y_move rfl) rfl rfl rfl (gj_step (y_move rfl) rfl rfl rfl (gj_step (y_lenA Tryz.underlying22 rfl) rfl rfl rfl (gj_step (y_lss rfl rfl) rfl rfl rfl (gj_nil ?_)))))
  refine ej_th ?_
  refine cj_cond rfl (fun h8 => ?_) (fun h8 => ?_)
  · have h8b := h8
    try simp only [sxb] at h8
    obtain ⟨x, hx⟩ : ∃ x, l[k]? = some x := ⟨_, List.getElem?_eq_getElem (by omega)⟩
    have htk : l.take (k + 1) = l.take k ++ [x] := by rw [List.take_add_one, hx]; rfl
    have hxl : xs.length = k := by rw [hxs]; simp [namesC]; omega
    refine cj_skip (ej_th (cj_seq (cj_block (cj_region ?_))))
    refine oj_step (y_move rfl) rfl rfl rfl ?_
    refine oj_step (y_move rfl) rfl rfl rfl ?_
    refine oj_step (y_move rfl) rfl rfl rfl ?_
    refine oj_step (y_ixR (reads_sl) Tryz.underlying22 Tryz.sizeOf37 rfl rfl (⟨by omega, by omega⟩)) rfl rfl rfl ?_
    refine oj_step (y_faE fa37_0 rfl) rfl rfl rfl ?_
    refine oj_step (y_ld1 (reads_sl) Tryz.isAgg9 rfl (hx) rfl) rfl rfl rfl ?_
    refine oj_buildSlice (cs := [.string x.name]) [.string ⟨#[]⟩] Tryz.underlying23 Tryz.sizeOf9 Tryz.zeroValue9 rfl rfl (by kernel_rfl) (by kernel_rfl) rfl (fun b17 => ?_)
    refine oj_append  el23 (fun _ => rfl) enStr_one rfl rfl rfl (reads_lit [x.name] (fun _ => rfl) rfl) (by unfold maxLen; simp only [List.length_cons, List.length_nil]; omega) (by simp only [List.length_cons, List.length_nil]; omega) rfl (fun A18 c18 => ?_)
    refine oj_step (y_assign rfl) rfl rfl rfl ?_
    refine oj_nil ?_
    refine ej_blk (ej_th ?_)
    refine cj_regionG (gj_step (y_move rfl) rfl rfl rfl (gj_step (y_add rfl rfl (by omega)) rfl rfl rfl (gj_step (y_assign rfl) rfl rfl rfl (gj_nil ?_))))
    exact ej_nx (k + 1, A18, c18, xs ++ [x.name]) (by simp only; omega) ⟨by first | omega | (simp only; omega), by rw [hxs, htk]; simp [namesC]⟩ ⟨rfl, rfl, rfl, rfl, trivial⟩
  · have h8b := h8
    try simp only [sxb] at h8
    refine cj_exit (ej_then_exit (ej_then_exit (ej_blk_hit (ej_th (cj_seq ?_)))))
    refine cj_regionG (gj_step (y_move rfl) rfl rfl rfl (gj_step (y_assign rfl) rfl rfl rfl (gj_nil ?_)))
    refine ej_th (cj_ret ?_)
    have hxe : xs = namesC l := by rw [hxs, List.take_of_length_le (by omega)]
    have hxl : (namesC l).length = l.length := by simp [namesC]
    exact ej_ret1 rfl Tryz.results72 rfl (fun w' hp => ⟨A1, c1, by rw [hxe], hp.below, by rw [← hxe]; exact hp.res (fun _ => rfl) (by rw [hxe]; unfold maxLen; omega)⟩)

theorem k_traits (cc : ClassV) (w : World) (hc : GoodC w cc) (h8 : cc.traits.length ≤ 8) : Calls Tryz.prog 73 #[evC cc] w (fun e w' => ∃ A c, e = .returned (.slice A (cc.traits.map (fun t : TraitV => t.name)).length c) ∧ Grow w w' ∧ Res w w' 1 enStr A (cc.traits.map (fun t : TraitV => t.name))) := by
  have hlen := hc.rt.len
  refine enter_pure (args := [evC cc]) [sl (fun b => b < w.heap.size) 3 encTr cc.At cc.traits] Tryz.func73 rfl (by rw [Tryz.ntmps73]; simp) (fun g hg => by simp at hg; subst hg; exact ⟨hc.rt, fun _ h => h⟩) ?_
  refine cj_seq (cj_region ?_)
  refine oj_box rfl rfl rfl (fun b1 => ?_)
  refine oj_step (y_assign rfl) rfl rfl rfl ?_
  refine oj_nil ?_
  refine ej_th (cj_seq ?_)
  refine cj_regionG (gj_step (y_assign rfl) rfl rfl rfl (gj_nil ?_))
  refine ej_th (cj_seq (cj_seq ?_))
  refine cj_regionG (gj_step (y_assign rfl) rfl rfl rfl (gj_nil ?_))
  refine ej_th (cj_block ?_)
  refine cj_ownNil 9 1 enStr ?_
  refine cj_lpi (X := Nat × Option Addr × Nat × List ByteArray) [(1, _), (2, _)] (fun ⟨k, A1, c1, xs⟩ => k ≤ cc.traits.length ∧ xs = (cc.traits.take k).map (·.name)) (fun ⟨k, A1, c1, xs⟩ => [(3, .slice A1 xs.length c1), (4, .int .i64 k)]) (fun ⟨k, A1, c1, xs⟩ => [ow 9 1 enStr A1 c1 xs, ownB b1 (cellsB 37 [.string cc.name, .slice cc.At cc.traits.length cc.ct, .slice cc.Ap cc.parts.length cc.cp, .int .i64 cc.most])]) (fun ⟨k, A1, c1, xs⟩ => [sl (fun b => b < w.heap.size) 3 encTr cc.At cc.traits]) (fun ⟨k, A1, c1, xs⟩ => cc.traits.length - k) (0, none, 0, []) (⟨Nat.zero_le _, rfl⟩) ⟨rfl, rfl, rfl, rfl, trivial⟩ ?_
  rintro ⟨k, A1, c1, xs⟩ ⟨hk, hxs⟩
  dsimp only [List.cons_append, List.nil_append]
  refine cj_seq (cj_seq ?_)
  refine cj_regionG (gj_step (y_move rfl) rfl rfl rfl (gj_step (y_fa fa37_1 rfl) rfl rfl rfl (gj_step (y_load1 Tryz.isAgg35 rfl rfl) rfl rfl rfl (gj_step (y_lenA Tryz.underlying35 rfl) rfl rfl rfl (gj_step (y_lss rfl rfl) rfl rfl rfl (gj_nil ?_))))))
  refine ej_th ?_
  refine cj_cond rfl (fun h9 => ?_) (fun h9 => ?_)
  · have h9b := h9
    try simp only [sxb] at h9
    obtain ⟨x, hx⟩ : ∃ x, cc.traits[k]? = some x := ⟨_, List.getElem?_eq_getElem (by omega)⟩
    have htk : cc.traits.take (k + 1) = cc.traits.take k ++ [x] := by rw [List.take_add_one, hx]; rfl
    have hxl : xs.length = k := by rw [hxs]; simp; omega
    refine cj_skip (ej_th (cj_seq (cj_block (cj_region ?_))))
    refine oj_step (y_move rfl) rfl rfl rfl ?_
    refine oj_step (y_fa fa37_1 rfl) rfl rfl rfl ?_
    refine oj_step (y_load1 Tryz.isAgg35 rfl rfl) rfl rfl rfl ?_
    refine oj_step (y_move rfl) rfl rfl rfl ?_
    refine oj_step (y_ixR (reads_sl) Tryz.underlying35 Tryz.sizeOf39 rfl rfl (⟨by omega, by omega⟩)) rfl rfl rfl ?_
    refine oj_step (y_faE fa39_0 rfl) rfl rfl rfl ?_
    refine oj_step (y_ld1 (reads_sl) Tryz.isAgg9 rfl (hx) rfl) rfl rfl rfl ?_
    refine oj_buildSlice (cs := [.string x.name]) [.string ⟨#[]⟩] Tryz.underlying23 Tryz.sizeOf9 Tryz.zeroValue9 rfl rfl (by kernel_rfl) (by kernel_rfl) rfl (fun b19 => ?_)
    refine oj_append  el23 (fun _ => rfl) enStr_one rfl rfl rfl (reads_lit [x.name] (fun _ => rfl) rfl) (by unfold maxLen; simp only [List.length_cons, List.length_nil]; omega) (by simp only [List.length_cons, List.length_nil]; omega) rfl (fun A20 c20 => ?_)
    refine oj_step (y_assign rfl) rfl rfl rfl ?_
    refine oj_nil ?_
    refine ej_blk (ej_th ?_)
    refine cj_regionG (gj_step (y_move rfl) rfl rfl rfl (gj_step (y_add rfl rfl (by omega)) rfl rfl rfl (gj_step (y_assign rfl) rfl rfl rfl (gj_nil ?_))))
    exact ej_nx (k + 1, A20, c20, xs ++ [x.name]) (by simp only; omega) ⟨by first | omega | (simp only; omega), by rw [hxs, htk]; simp⟩ ⟨rfl, rfl, rfl, rfl, trivial⟩
  · have h9b := h9
    try simp only [sxb] at h9
    refine cj_exit (ej_then_exit (ej_then_exit (ej_blk_hit (ej_th (cj_seq ?_)))))
    refine cj_regionG (gj_step (y_move rfl) rfl rfl rfl (gj_step (y_assign rfl) rfl rfl rfl (gj_nil ?_)))
    refine ej_th (cj_ret ?_)
    have hxe : xs = cc.traits.map (fun t : TraitV => t.name) := by rw [hxs, List.take_of_length_le (by omega)]
    have hxl : (cc.traits.map (fun t : TraitV => t.name)).length = cc.traits.length := by simp
    exact ej_ret1 rfl Tryz.results73 rfl (fun w' hp => ⟨A1, c1, by rw [hxe], hp.below, by rw [← hxe]; exact hp.res (fun _ => rfl) (by rw [hxe]; unfold maxLen; omega)⟩)

set_option maxHeartbeats 1000000 in
theorem k_rCheckG (l : List ClassV) (A : Option Addr) (c : Nat) (w : World) (hl : Rd w 4 encCl A l) (hgc : ∀ c ∈ l, GoodC w c) : Calls Tryz.prog 35 #[.slice A l.length c] w (fun e w' => e = .returned (.int .i64 (gramE l)) ∧ Grow w w') := by
  have hlen := hl.len
  have hns : smS (namesC l) := fun s hs => by unfold namesC at hs; obtain ⟨q, hq, rfl⟩ := List.mem_map.1 hs; exact (hgc q hq).nm
  refine enter_pure (args := [.slice A l.length c]) [sl (fun b => b < w.heap.size) 4 encCl A l] Tryz.func35 rfl (by rw [Tryz.ntmps35]; simp) (fun g hg => by simp at hg; subst hg; exact ⟨hl, fun _ h => h⟩) ?_
  refine cj_seq ?_
  refine cj_regionG (gj_step (y_assign rfl) rfl rfl rfl (gj_nil ?_))
  refine ej_th (cj_seq (cj_region ?_))
  refine oj_step (y_move rfl) rfl rfl rfl ?_
  refine oj_step (y_lenA Tryz.underlying22 rfl) rfl rfl rfl ?_
  refine oj_step (y_call Tryz.call70 rfl (fun w hp => k_From _ _ _ w)) rfl rfl rfl ?_
  refine oj_step (y_move rfl) rfl rfl rfl ?_
  apply oj_gW (b := true) [(0, _), (2, _), (9, _), (10, _), (11, _), (12, _)] 3 12 15 ⟨rfl, rfl, rfl, rfl, rfl, rfl, trivial⟩ rfl rfl rfl rfl
  · intro hg12
    refine oj_yesE rfl rfl rfl hg12 ?_
    refine oj_step (y_move rfl) rfl rfl rfl ?_
    refine oj_yesE rfl rfl rfl hg12 ?_
    refine oj_callS (fun A c => .slice A (namesC l).length c) 1 enStr (namesC l) Tryz.call72 rfl (fun w hp => k_names l A c w hp.rd (by rw [Bool.and_eq_true, decide_eq_true_eq, decide_eq_true_eq] at hg12; omega)) rfl (fun A14 c14 fp14 hfp14 => ?_)
    refine oj_yesE rfl rfl rfl hg12 ?_
    refine oj_step (y_call Tryz.call71 rfl (fun w hp => k_different (namesC l) A14 c14 w hp.rd hns)) rfl rfl rfl ?_
    exact oj_nil (ej_gW ⟨rfl, rfl, rfl, rfl, rfl, rfl, rfl, trivial⟩)
  refine oj_step (y_and rfl rfl rfl) rfl rfl rfl ?_
  refine oj_step (y_assign rfl) rfl rfl rfl ?_
  refine oj_nil ?_
  refine ej_th (cj_seq (cj_seq ?_))
  refine cj_regionG (gj_step (y_assign rfl) rfl rfl rfl (gj_nil ?_))
  refine ej_th (cj_block ?_)
  refine cj_lpi (X := Nat × Bool) [(0, _), (2, _)] (fun ⟨k, ok⟩ => k ≤ l.length ∧ (ok = true → l.length ≤ 12) ∧ (ok && (l.drop k).all (classOk (namesC l))) = gramOk l) (fun ⟨k, ok⟩ => [(3, .bool ok), (4, .int .i64 k)]) (fun ⟨k, ok⟩ => ([] : List Fact)) (fun ⟨k, ok⟩ => [sl (fun b => b < w.heap.size) 4 encCl A l]) (fun ⟨k, ok⟩ => l.length - k) (0, (decide (1 ≤ (l.length : Int)) && decide ((l.length : Int) ≤ 12)) && wordsB (namesC l)) (⟨Nat.zero_le _, fun h => by simp only [Bool.and_eq_true, decide_eq_true_eq] at h; omega, by rw [gramOk, Bool.and_assoc]; rfl⟩) ⟨rfl, rfl, rfl, rfl, trivial⟩ ?_
  rintro ⟨k, ok⟩ ⟨hk, hl12, hsk⟩
  dsimp only [List.cons_append, List.nil_append]
  refine cj_seq (cj_seq ?_)
  refine cj_regionG (gj_step (y_move rfl) rfl rfl rfl (gj_step (y_move rfl) rfl rfl rfl (gj_g 4 18 22 rfl rfl rfl rfl (fun hg18 => gj_yes rfl rfl rfl (y_move rfl) rfl rfl (gj_yes rfl rfl rfl (y_move rfl) rfl rfl (gj_yes rfl rfl rfl (y_lenA Tryz.underlying22 rfl) rfl rfl (gj_yes rfl rfl rfl (y_lss rfl rfl) rfl rfl (gj_nil rfl))))) (gj_step (y_and rfl rfl rfl) rfl rfl rfl (gj_nil ?_)))))
  refine ej_th ?_
  refine cj_cond rfl (fun h23 => ?_) (fun h23 => ?_)
  · have h23b := h23
    try simp only [sxb] at h23
    rw [Bool.and_eq_true, decide_eq_true_eq] at h23b
    have hok := h23b.1
    have h12 := hl12 hok
    obtain ⟨cc, hx⟩ : ∃ cc, l[k]? = some cc := ⟨_, List.getElem?_eq_getElem (by omega)⟩
    rw [all_drop (classOk (namesC l)) l k cc hx] at hsk
    have hg1 := hgc cc (List.mem_of_getElem? hx)
    have hl1 := hg1.rt.len
    have hl2 := hg1.rp.len
    have hts : smS (cc.traits.map (fun t : TraitV => t.name)) := fun s hs => by obtain ⟨q, hq, rfl⟩ := List.mem_map.1 hs; exact (hg1.tr q hq).nm
    refine cj_rd hg1.rt (fun _ h => h) ?_
    refine cj_rd hg1.rp (fun _ h => h) ?_
    refine cj_skip (ej_th (cj_seq (cj_block (cj_seq (cj_region ?_)))))
    refine oj_step (y_move rfl) rfl rfl rfl ?_
    refine oj_step (y_move rfl) rfl rfl rfl ?_
    refine oj_step (y_ixR (reads_sl) Tryz.underlying22 Tryz.sizeOf37 rfl rfl (⟨by omega, by omega⟩)) rfl rfl rfl ?_
    refine oj_step (y_ldW (reads_sl) Tryz.isAgg37 Tryz.sizeOf37 rfl (hx) (fun _ => rfl)) rfl rfl rfl ?_
    refine oj_alloc Tryz.zeroValue37 rfl rfl (fun b5 => ?_)
    refine oj_store rfl rfl rfl rfl Tryz.sizeOf37 rfl ?_
    refine oj_nil ?_
    refine ej_th (cj_seq (cj_region ?_))
    refine oj_step (y_fa fa37_1 rfl) rfl rfl rfl ?_
    refine oj_step (y_load1 Tryz.isAgg35 rfl rfl) rfl rfl rfl ?_
    refine oj_step (y_lenA Tryz.underlying35 rfl) rfl rfl rfl ?_
    refine oj_step (y_leq rfl rfl) rfl rfl rfl ?_
    refine oj_step (y_move rfl) rfl rfl rfl ?_
    apply oj_gW (b := true) [(3, _), (4, _), (0, _), (2, _), (17, _), (18, _), (22, _), (23, _), (26, _), (27, _), (28, _), (29, _), (5, _), (30, _), (31, _), (32, _), (33, _), (34, _)] 3 34 37 ⟨rfl, rfl, rfl, rfl, rfl, rfl, rfl, rfl, rfl, rfl, rfl, rfl, rfl, rfl, rfl, rfl, rfl, rfl, trivial⟩ rfl rfl rfl rfl
    · intro hg34
      refine oj_yesE rfl rfl rfl hg34 ?_
      refine oj_step (y_loadN Tryz.isAgg37 Tryz.sizeOf37 rfl) rfl rfl rfl ?_
      refine oj_yesE rfl rfl rfl hg34 ?_
      refine oj_callS (fun A c => .slice A (cc.traits.map (fun t : TraitV => t.name)).length c) 1 enStr (cc.traits.map (fun t : TraitV => t.name)) Tryz.call73 rfl (fun w hp => k_traits cc w (hg1.mono hp.below) (by rw [decide_eq_true_eq] at hg34; omega)) rfl (fun A36 c36 fp36 hfp36 => ?_)
      refine oj_yesE rfl rfl rfl hg34 ?_
      refine oj_step (y_call Tryz.call71 rfl (fun w hp => k_different (cc.traits.map (fun t : TraitV => t.name)) A36 c36 w hp.rd hts)) rfl rfl rfl ?_
      exact oj_nil (ej_gW ⟨rfl, rfl, rfl, rfl, rfl, rfl, rfl, rfl, rfl, rfl, rfl, rfl, rfl, rfl, rfl, rfl, rfl, rfl, rfl, trivial⟩)
    refine oj_step (y_and rfl rfl rfl) rfl rfl rfl ?_
    refine oj_step (y_move rfl) rfl rfl rfl ?_
    refine oj_gj 27 (gj_g 4 39 43 rfl rfl rfl rfl (fun hg39 => gj_yes rfl rfl rfl (y_fa fa37_2 rfl) rfl rfl (gj_yes rfl rfl rfl (y_load1 Tryz.isAgg23 rfl rfl) rfl rfl (gj_yes rfl rfl rfl (y_lenA Tryz.underlying23 rfl) rfl rfl (gj_yes rfl rfl rfl (y_leq rfl rfl) rfl rfl (gj_nil rfl))))) (gj_step (y_and rfl rfl rfl) rfl rfl rfl (gj_step (y_move rfl) rfl rfl rfl (gj_g 3 45 48 rfl rfl rfl rfl (fun hg45 => gj_yes rfl rfl rfl (y_fa fa37_2 rfl) rfl rfl (gj_yes rfl rfl rfl (y_load1 Tryz.isAgg23 rfl rfl) rfl rfl (gj_yes rfl rfl rfl (y_call Tryz.call71 rfl (fun w hp => k_different cc.parts cc.Ap cc.cp w hp.rd hg1.sm)) rfl rfl (gj_nil rfl)))) (gj_step (y_and rfl rfl rfl) rfl rfl rfl (gj_step (y_move rfl) rfl rfl rfl (gj_g 3 50 53 rfl rfl rfl rfl (fun hg50 => gj_yes rfl rfl rfl (y_fa fa37_3 rfl) rfl rfl (gj_yes rfl rfl rfl (y_load1 Tryz.isAgg3 rfl rfl) rfl rfl (gj_yes rfl rfl rfl (y_call Tryz.call70 rfl (fun w hp => k_From _ _ _ w)) rfl rfl (gj_nil rfl)))) (gj_step (y_and rfl rfl rfl) rfl rfl rfl (gj_step (y_move rfl) rfl rfl rfl (gj_g 9 55 64 rfl rfl rfl rfl (fun hg55 => gj_yes rfl rfl rfl (y_fa fa37_3 rfl) rfl rfl (gj_yes rfl rfl rfl (y_load1 Tryz.isAgg3 rfl rfl) rfl rfl (gj_yes rfl rfl rfl (y_eql rfl rfl) rfl rfl (gj_yes rfl rfl rfl (y_move rfl) rfl rfl (gj_g 4 59 63 rfl rfl rfl rfl (fun hg59 => gj_yes rfl rfl rfl (y_fa fa37_2 rfl) rfl rfl (gj_yes rfl rfl rfl (y_load1 Tryz.isAgg23 rfl rfl) rfl rfl (gj_yes rfl rfl rfl (y_lenA Tryz.underlying23 rfl) rfl rfl (gj_yes rfl rfl rfl (y_gtr rfl rfl) rfl rfl (gj_nil rfl))))) (gj_yes rfl rfl rfl (y_or rfl rfl rfl) rfl rfl (gj_nil rfl))))))) (gj_step (y_and rfl rfl rfl) rfl rfl rfl (gj_step (y_assign rfl) rfl rfl rfl (gj_nil ?_)))))))))))))
    refine oj_nil ?_
    refine ej_th (cj_seq (cj_seq ?_))
    refine cj_regionG (gj_step (y_assign rfl) rfl rfl rfl (gj_nil ?_))
    refine ej_th (cj_block ?_)
    refine cj_lpic (X := Nat × Bool) [(4, _), (0, _), (2, _), (5, _)] (fun ⟨j, ok2⟩ => j ≤ cc.traits.length ∧ (ok2 && (cc.traits.drop j).all traitOk) = (cls1R cc && cc.traits.all traitOk)) (fun ⟨j, ok2⟩ => [(3, .bool ok2), (6, .int .i64 j)]) (fun ⟨j, ok2⟩ => cc.traits.length - j) (0, cls1R cc) (⟨Nat.zero_le _, rfl⟩) ⟨rfl, rfl, rfl, rfl, rfl, rfl, trivial⟩ ?_
    rintro ⟨j, ok2⟩ ⟨hj, hsj⟩
    dsimp only [List.cons_append, List.nil_append]
    refine cj_seq (cj_seq ?_)
    refine cj_regionG (gj_step (y_move rfl) rfl rfl rfl (gj_step (y_move rfl) rfl rfl rfl (gj_g 5 67 72 rfl rfl rfl rfl (fun hg67 => gj_yes rfl rfl rfl (y_move rfl) rfl rfl (gj_yes rfl rfl rfl (y_fa fa37_1 rfl) rfl rfl (gj_yes rfl rfl rfl (y_load1 Tryz.isAgg35 rfl rfl) rfl rfl (gj_yes rfl rfl rfl (y_lenA Tryz.underlying35 rfl) rfl rfl (gj_yes rfl rfl rfl (y_lss rfl rfl) rfl rfl (gj_nil rfl)))))) (gj_step (y_and rfl rfl rfl) rfl rfl rfl (gj_nil ?_)))))
    refine ej_th ?_
    refine cj_cond rfl (fun h73 => ?_) (fun h73 => ?_)
    · have h73b := h73
      try simp only [sxb] at h73
      rw [Bool.and_eq_true, decide_eq_true_eq] at h73b
      obtain ⟨t, hy⟩ : ∃ t, cc.traits[j]? = some t := ⟨_, List.getElem?_eq_getElem (by omega)⟩
      rw [all_drop traitOk cc.traits j t hy, h73b.1, Bool.true_and, traitOk_V] at hsj
      have hg2 := hg1.tr t (List.mem_of_getElem? hy)
      have hl3 := hg2.rd.len
      refine cj_rd hg2.rd (fun _ h => h) ?_
      refine cj_skip (ej_th (cj_seq (cj_block (cj_seq ?_))))
      refine cj_regionG (gj_step (y_fa fa37_1 rfl) rfl rfl rfl (gj_step (y_load1 Tryz.isAgg35 rfl rfl) rfl rfl rfl (gj_step (y_move rfl) rfl rfl rfl (gj_step (y_ixR (reads_sl) Tryz.underlying35 Tryz.sizeOf39 rfl rfl (⟨by omega, by omega⟩)) rfl rfl rfl (gj_step (y_faE fa39_1 rfl) rfl rfl rfl (gj_step (y_ld1 (reads_sl) Tryz.isAgg23 rfl (hy) rfl) rfl rfl rfl (gj_step (y_assign rfl) rfl rfl rfl (gj_nil ?_))))))))
      refine ej_th ?_
      refine cj_regionG ?_
      refine gj_step (y_move rfl) rfl rfl rfl (gj_step (y_lenA Tryz.underlying23 rfl) rfl rfl rfl (?_))
      refine gj_step (y_call Tryz.call70 rfl (fun w hp => k_From _ _ _ w)) rfl rfl rfl ?_
      refine gj_step (y_move rfl) rfl rfl rfl (?_)
      refine gj_g 2 85 87 rfl rfl rfl rfl (fun hg85 => gj_yes rfl rfl rfl (y_move rfl) rfl rfl (gj_yes rfl rfl rfl (y_call Tryz.call71 rfl (fun w hp => k_different t.vals t.A t.c w hp.rd hg2.sm)) rfl rfl (gj_nil rfl))) ?_
      refine gj_step (y_and rfl rfl rfl) rfl rfl rfl (gj_step (y_assign rfl) rfl rfl rfl (?_))
      refine gj_nil ?_
      refine ej_blk (ej_th ?_)
      refine cj_regionG (gj_step (y_move rfl) rfl rfl rfl (gj_step (y_add rfl rfl (by omega)) rfl rfl rfl (gj_step (y_assign rfl) rfl rfl rfl (gj_nil ?_))))
      exact ej_nx (j + 1, (decide (1 ≤ (t.vals.length : Int)) && decide ((t.vals.length : Int) ≤ 8)) && wordsB t.vals) (by simp only; omega) ⟨by first | omega | (simp only; omega), hsj⟩ ⟨rfl, rfl, rfl, rfl, rfl, rfl, trivial⟩
    · have h73b := h73
      try simp only [sxb] at h73
      have hfj := ok_end h73b hj (fun h => by rw [List.drop_of_length_le h]; rfl) hsj
      refine cj_exit (ej_then_exit (ej_then_exit (ej_blk_hit (ej_th (cj_seq ?_)))))
      refine cj_regionG (gj_step (y_assign rfl) rfl rfl rfl (gj_nil ?_))
      refine ej_th (cj_block ?_)
      refine cj_lpic (X := Nat × Bool) [(4, _), (0, _), (2, _), (5, _)] (fun ⟨i, ok3⟩ => i ≤ cc.parts.length ∧ (ok3 && (cc.parts.drop i).all (hasW (namesC l))) = (ok2 && cc.parts.all (hasW (namesC l)))) (fun ⟨i, ok3⟩ => [(3, .bool ok3), (8, .int .i64 i)]) (fun ⟨i, ok3⟩ => cc.parts.length - i) (0, ok2) (⟨Nat.zero_le _, rfl⟩) ⟨rfl, rfl, rfl, rfl, rfl, rfl, trivial⟩ ?_
      rintro ⟨i, ok3⟩ ⟨hi, hsi⟩
      dsimp only [List.cons_append, List.nil_append]
      refine cj_seq (cj_seq ?_)
      refine cj_regionG (gj_step (y_move rfl) rfl rfl rfl (gj_step (y_move rfl) rfl rfl rfl (gj_g 5 90 95 rfl rfl rfl rfl (fun hg90 => gj_yes rfl rfl rfl (y_move rfl) rfl rfl (gj_yes rfl rfl rfl (y_fa fa37_2 rfl) rfl rfl (gj_yes rfl rfl rfl (y_load1 Tryz.isAgg23 rfl rfl) rfl rfl (gj_yes rfl rfl rfl (y_lenA Tryz.underlying23 rfl) rfl rfl (gj_yes rfl rfl rfl (y_lss rfl rfl) rfl rfl (gj_nil rfl)))))) (gj_step (y_and rfl rfl rfl) rfl rfl rfl (gj_nil ?_)))))
      refine ej_th ?_
      refine cj_cond rfl (fun h96 => ?_) (fun h96 => ?_)
      · have h96b := h96
        try simp only [sxb] at h96
        rw [Bool.and_eq_true, decide_eq_true_eq] at h96b
        obtain ⟨q, hz⟩ : ∃ q, cc.parts[i]? = some q := ⟨_, List.getElem?_eq_getElem (by omega)⟩
        rw [all_drop (hasW (namesC l)) cc.parts i q hz, h96b.1, Bool.true_and] at hsi
        refine cj_skip (ej_th (cj_seq (cj_block ?_)))
        refine cj_plan 10 (by kernel_rfl) (by kernel_rfl) ?_
        refine pl_y 0 rfl (y_move rfl) rfl rfl rfl rfl (by kernel_rfl) ?_
        refine pl_y 2 rfl (y_fa fa37_2 rfl) rfl rfl rfl rfl (by kernel_rfl) ?_
        refine pl_y 3 rfl (y_load1 Tryz.isAgg23 rfl rfl) rfl rfl rfl rfl (by kernel_rfl) ?_
        refine pl_y 4 rfl (y_move rfl) rfl rfl rfl rfl (by kernel_rfl) ?_
        refine pl_y 5 rfl (y_ixR (reads_sl) Tryz.underlying23 Tryz.sizeOf9 rfl rfl (⟨by omega, by omega⟩)) rfl rfl rfl rfl (by kernel_rfl) ?_
        refine pl_y 6 rfl (y_ld0 (reads_sl) Tryz.isAgg9 rfl (hz) rfl) rfl rfl rfl rfl (by kernel_rfl) ?_
        refine pl_w1 1 (by kernel_rfl) rfl rfl (pl_fire rfl rfl rfl (by kernel_rfl) ?_)
        refine oj_callS (fun A c => .slice A (namesC l).length c) 1 enStr (namesC l) Tryz.call72 rfl (fun w hp => k_names l A c w hp.rd h12) rfl (fun A100 c100 fp100 hfp100 => ?_)
        refine oj_nil ?_
        refine ej_pl (lt_y (y_ld0 (reads_sl) Tryz.isAgg9 rfl (hz) rfl) rfl (lt_y (y_ixR (reads_sl) Tryz.underlying23 Tryz.sizeOf9 rfl rfl (⟨by omega, by omega⟩)) rfl (lt_y (y_move rfl) rfl (lt_y (y_load1 Tryz.isAgg23 rfl rfl) rfl (lt_y (y_fa fa37_2 rfl) rfl (lt_w (by kernel_rfl) (lt_nil))))))) ?_
        refine pl_y 7 rfl (y_call Tryz.call74 rfl (fun w hp => k_SeekText (namesC l) A100 c100 q w hp.rd)) rfl rfl rfl rfl (by kernel_rfl) ?_
        refine pl_y 8 rfl (y_geq rfl rfl) rfl rfl rfl rfl (by kernel_rfl) ?_
        refine pl_y 9 rfl (y_assign rfl) rfl rfl rfl rfl (by kernel_rfl) ?_
        refine pl_end (by kernel_rfl) ?_
        refine ej_blk (ej_th ?_)
        refine cj_regionG (gj_step (y_move rfl) rfl rfl rfl (gj_step (y_add rfl rfl (by omega)) rfl rfl rfl (gj_step (y_assign rfl) rfl rfl rfl (gj_nil ?_))))
        exact ej_nx (i + 1, decide (0 ≤ firstS q (namesC l) 0)) (by simp only; omega) ⟨by first | omega | (simp only; omega), by rw [firstS_has]; exact hsi⟩ ⟨rfl, rfl, rfl, rfl, rfl, rfl, trivial⟩
      · have h96b := h96
        try simp only [sxb] at h96
        have hfi := ok_end h96b hi (fun h => by rw [List.drop_of_length_le h]; rfl) hsi
        have hcr := class_ref (ns := namesC l) (by simpa [namesC] using h12) cc
        refine cj_exit (ej_then_exit (ej_then_exit (ej_blk_hit (ej_blk (ej_th ?_)))))
        refine cj_regionG (gj_step (y_move rfl) rfl rfl rfl (gj_step (y_add rfl rfl (by omega)) rfl rfl rfl (gj_step (y_assign rfl) rfl rfl rfl (gj_nil ?_))))
        exact ej_nx (k + 1, ok3) (by simp only; omega) ⟨by first | omega | (simp only; omega), fun _ => h12, by rw [← hsk, hfi, hfj, hcr, hok, Bool.true_and]⟩ ⟨rfl, rfl, rfl, rfl, trivial⟩
  · have h23b := h23
    try simp only [sxb] at h23
    have hfin := ok_end h23b hk (fun h => by rw [List.drop_of_length_le h]; rfl) hsk
    refine cj_exit (ej_then_exit (ej_then_exit (ej_blk_hit (ej_th (cj_seq (cj_seq ?_))))))
    refine cj_regionG (gj_step (y_move rfl) rfl rfl rfl (gj_step (y_not rfl) rfl rfl rfl (gj_nil ?_)))
    refine ej_th ?_
    refine cj_cond rfl (fun h109 => ?_) (fun h109 => ?_)
    · have h109b := h109
      try simp only [sxb] at h109
      refine cj_seq ?_
      refine cj_regionG (gj_step (y_assign rfl) rfl rfl rfl (gj_nil ?_))
      refine ej_th (cj_ret (ej_then_ret ?_))
      refine ej_ret1 rfl Tryz.results35 rfl (fun w' hp => ⟨?_, hp.below⟩)
      rw [gramE, ← hfin, not_t h109b]; rfl
    · have h109b := h109
      try simp only [sxb] at h109
      refine cj_skip (ej_th (cj_seq ?_))
      refine cj_regionG (gj_step (y_assign rfl) rfl rfl rfl (gj_nil ?_))
      refine ej_th (cj_ret ?_)
      refine ej_ret1 rfl Tryz.results35 rfl (fun w' hp => ⟨?_, hp.below⟩)
      rw [gramE, ← hfin, not_f h109b]; rfl

theorem k_class (l : List ClassV) (A : Option Addr) (c : Nat) (x : ItemV) (w : World) (hl : Rd w 4 encCl A l) (hgo : gramOk l = true) : Calls Tryz.prog 60 #[.slice A l.length c, evI x] w (fun e w' => e = .returned (.tuple #[evC ((clsOf l x.cls).getD zC), .bool (clsOf l x.cls).isSome]) ∧ Grow w w') := by
  have h12 := gram_12 hgo
  have hlen := hl.len
  have hfc := firstS_cls x.cls l 0
  refine enter_pure (args := [.slice A l.length c, evI x]) [sl (fun b => b < w.heap.size) 4 encCl A l] Tryz.func60 rfl (by rw [Tryz.ntmps60]; simp) (fun g hg => by simp at hg; subst hg; exact ⟨hl, fun _ h => h⟩) ?_
  refine cj_seq (cj_region ?_)
  refine oj_box rfl rfl rfl (fun b3 => ?_)
  refine oj_alloc Tryz.zeroValue37 rfl rfl (fun b4 => ?_)
  refine oj_step (y_assign rfl) rfl rfl rfl ?_
  refine oj_nil ?_
  refine ej_th (cj_seq ?_)
  refine cj_plan 6 (by kernel_rfl) (by kernel_rfl) ?_
  refine pl_y 0 rfl (y_move rfl) rfl rfl rfl rfl (by kernel_rfl) ?_
  refine pl_y 2 rfl (y_fa0 fa26_0 rfl) rfl rfl rfl rfl (by kernel_rfl) ?_
  refine pl_y 3 rfl (y_load1 Tryz.isAgg9 rfl rfl) rfl rfl rfl rfl (by kernel_rfl) ?_
  refine pl_w1 1 (by kernel_rfl) rfl rfl (pl_fire rfl rfl rfl (by kernel_rfl) ?_)
  refine oj_callS (fun A c => .slice A (namesC l).length c) 1 enStr (namesC l) Tryz.call72 rfl (fun w hp => k_names l A c w hp.rd h12) rfl (fun A8 c8 fp8 hfp8 => ?_)
  refine oj_nil ?_
  refine ej_pl (lt_y (y_load1 Tryz.isAgg9 rfl rfl) rfl (lt_y (y_fa0 fa26_0 rfl) rfl (lt_w (by kernel_rfl) (lt_nil)))) ?_
  refine pl_y 4 rfl (y_call Tryz.call74 rfl (fun w hp => k_SeekText (namesC l) A8 c8 x.cls w hp.rd)) rfl rfl rfl rfl (by kernel_rfl) ?_
  refine pl_y 5 rfl (y_assign rfl) rfl rfl rfl rfl (by kernel_rfl) ?_
  refine pl_end (by kernel_rfl) ?_
  refine ej_th (cj_seq (cj_seq ?_))
  refine cj_regionG (gj_step (y_move rfl) rfl rfl rfl (gj_step (y_lss rfl rfl) rfl rfl rfl (gj_nil ?_)))
  refine ej_th ?_
  refine cj_cond rfl (fun h13 => ?_) (fun h13 => ?_)
  · have h13b := h13
    try simp only [sxb] at h13
    have hno : clsOf l x.cls = none := by
      cases h : clsOf l x.cls with
      | none => rfl
      | some cc => rw [h] at hfc; obtain ⟨k, _, he⟩ := hfc; omega
    refine cj_seq (cj_region ?_)
    refine oj_step (y_build st37 rfl rfl) rfl rfl rfl ?_
    refine oj_store rfl rfl rfl rfl Tryz.sizeOf37 rfl ?_
    refine oj_step (y_assign rfl) rfl rfl rfl ?_
    refine oj_nil ?_
    refine ej_th (cj_ret (ej_then_ret ?_))
    exact ej_retC2 rfl Tryz.results60 rfl (y_loadN Tryz.isAgg37 Tryz.sizeOf37 rfl) rfl (fun w' hp => ⟨by rw [hno]; rfl, hp.below⟩)
  · have h13b := h13
    try simp only [sxb] at h13
    obtain ⟨cc, hcc⟩ : ∃ cc, clsOf l x.cls = some cc := by
      cases h : clsOf l x.cls with
      | none => rw [h] at hfc; simp only at hfc; omega
      | some cc => exact ⟨cc, rfl⟩
    rw [hcc] at hfc
    obtain ⟨k, hx, he⟩ := hfc
    have hkl := (List.getElem?_eq_some_iff.1 hx).1
    refine cj_skip (ej_th (cj_seq (cj_region ?_)))
    refine oj_step (y_move rfl) rfl rfl rfl ?_
    refine oj_step (y_move rfl) rfl rfl rfl ?_
    refine oj_step (y_ixR (reads_sl) Tryz.underlying22 Tryz.sizeOf37 rfl rfl (⟨by omega, by omega⟩)) rfl rfl rfl ?_
    refine oj_step (y_ldW (reads_sl) Tryz.isAgg37 Tryz.sizeOf37 rfl ((show l[(firstS x.cls (namesC l) 0).toNat]? = some cc by rw [he]; simpa using hx)) (fun _ => rfl)) rfl rfl rfl ?_
    refine oj_store rfl rfl rfl rfl Tryz.sizeOf37 rfl ?_
    refine oj_step (y_assign rfl) rfl rfl rfl ?_
    refine oj_nil ?_
    refine ej_th (cj_ret ?_)
    exact ej_retC2 rfl Tryz.results60 rfl (y_loadN Tryz.isAgg37 Tryz.sizeOf37 rfl) rfl (fun w' hp => ⟨by rw [hcc]; rfl, hp.below⟩)

set_option maxHeartbeats 2000000 in
theorem k_val1 (l : List ClassV) (A : Option Addr) (c : Nat) (x : ItemV) (deep : Int) (w : World) (hl : Rd w 4 encCl A l) (hgc : ∀ c ∈ l, GoodC w c) (hgo : gramOk l = true) (hx : GoodI w x) (hd : 0 ≤ deep ∧ deep ≤ 100) (ih : ∀ p ∈ x.parts, ∀ (w1 : World) (dp : Int), Grow w w1 → 0 ≤ dp ∧ dp ≤ 100 → Calls Tryz.prog 58 #[.slice A l.length c, evI p, .int .i64 dp] w1 (fun e w' => e = .returned (.bool (valI l p dp)) ∧ Grow w1 w')) : Calls Tryz.prog 58 #[.slice A l.length c, evI x, .int .i64 deep] w (fun e w' => e = .returned (.bool (valI l x deep)) ∧ Grow w w') := by
  have hl1 := hx.rs.len
  have hl2 := hx.rp.len
  refine enter_pure (args := [.slice A l.length c, evI x, .int .i64 deep]) [sl (fun b => b < w.heap.size) 4 encCl A l] Tryz.func58 rfl (by rw [Tryz.ntmps58]; simp) (fun g hg => by simp at hg; subst hg; exact ⟨hl, fun _ h => h⟩) ?_
  refine cj_seq (cj_region ?_)
  refine oj_box rfl rfl rfl (fun b4 => ?_)
  refine oj_step (y_assign rfl) rfl rfl rfl ?_
  refine oj_nil ?_
  refine ej_th (cj_seq (cj_region ?_))
  refine oj_step (y_move rfl) rfl rfl rfl ?_
  refine oj_step (y_loadN Tryz.isAgg26 Tryz.sizeOf26 rfl) rfl rfl rfl ?_
  refine oj_step (y_call Tryz.call60 rfl (fun w hp => k_class l A c x w hp.rd hgo)) rfl rfl rfl ?_
  refine oj_step (y_move rfl) rfl rfl rfl ?_
  refine oj_step (y_extract rfl rfl) rfl rfl rfl ?_
  refine oj_step (y_extract rfl rfl) rfl rfl rfl ?_
  refine oj_alloc Tryz.zeroValue37 rfl rfl (fun b7 => ?_)
  refine oj_store rfl rfl rfl rfl Tryz.sizeOf37 rfl ?_
  refine oj_step (y_assign rfl) rfl rfl rfl ?_
  refine oj_nil ?_
  refine ej_th (cj_seq (cj_seq ?_))
  refine cj_regionG (gj_step (y_move rfl) rfl rfl rfl (gj_step (y_not rfl) rfl rfl rfl (gj_step (y_move rfl) rfl rfl rfl (gj_g 2 20 22 rfl rfl rfl rfl (fun hg20 => gj_yes rfl rfl rfl (y_move rfl) rfl rfl (gj_yes rfl rfl rfl (y_gtr rfl rfl) rfl rfl (gj_nil rfl))) (gj_step (y_or rfl rfl rfl) rfl rfl rfl (gj_step (y_move rfl) rfl rfl rfl (gj_g 7 24 31 rfl rfl rfl rfl (fun hg24 => gj_yes rfl rfl rfl (y_fa fa26_1 rfl) rfl rfl (gj_yes rfl rfl rfl (y_load1 Tryz.isAgg23 rfl rfl) rfl rfl (gj_yes rfl rfl rfl (y_lenA Tryz.underlying23 rfl) rfl rfl (gj_yes rfl rfl rfl (y_fa fa37_1 rfl) rfl rfl (gj_yes rfl rfl rfl (y_load1 Tryz.isAgg35 rfl rfl) rfl rfl (gj_yes rfl rfl rfl (y_lenA Tryz.underlying35 rfl) rfl rfl (gj_yes rfl rfl rfl (y_neq rfl rfl) rfl rfl (gj_nil rfl)))))))) (gj_step (y_or rfl rfl rfl) rfl rfl rfl (gj_step (y_move rfl) rfl rfl rfl (gj_g 6 33 39 rfl rfl rfl rfl (fun hg33 => gj_yes rfl rfl rfl (y_fa fa26_2 rfl) rfl rfl (gj_yes rfl rfl rfl (y_load1 Tryz.isAgg24 rfl rfl) rfl rfl (gj_yes rfl rfl rfl (y_lenA Tryz.underlying24 rfl) rfl rfl (gj_yes rfl rfl rfl (y_fa fa37_3 rfl) rfl rfl (gj_yes rfl rfl rfl (y_load1 Tryz.isAgg3 rfl rfl) rfl rfl (gj_yes rfl rfl rfl (y_gtr rfl rfl) rfl rfl (gj_nil rfl))))))) (gj_step (y_or rfl rfl rfl) rfl rfl rfl (gj_nil ?_))))))))))))
  refine ej_th ?_
  refine cj_cond rfl (fun h40 => ?_) (fun h40 => ?_)
  · have h40b := h40
    try simp only [sxb] at h40
    have hno := val_none h40b
    refine cj_seq ?_
    refine cj_regionG (gj_step (y_assign rfl) rfl rfl rfl (gj_nil ?_))
    refine ej_th (cj_ret (ej_then_ret ?_))
    refine ej_ret1 rfl Tryz.results58 rfl (fun w' hp => ⟨?_, hp.below⟩)
    rw [hno]
  · have h40b := h40
    try simp only [sxb] at h40
    obtain ⟨cc, hcc, hcm, hd3, hsl, hve⟩ := val_some h40b
    rw [hcc]
    dsimp only [Option.getD_some]
    have hg1 := hgc cc hcm
    have hl3 := hg1.rt.len
    have hl4 := hg1.rp.len
    refine cj_rd hx.rs (fun _ h => h) ?_
    refine cj_rd hx.rp (fun _ h => h) ?_
    refine cj_rd hg1.rt (fun _ h => h) ?_
    refine cj_rd hg1.rp (fun _ h => h) ?_
    refine cj_skip (ej_th (cj_seq (cj_seq ?_)))
    refine cj_regionG (gj_step (y_assign rfl) rfl rfl rfl (gj_nil ?_))
    refine ej_th (cj_block ?_)
    refine cj_lpi (X := Nat) [(0, _), (2, _), (4, _), (7, _)] (fun k => k ≤ x.says.length ∧ saysOk (cc.traits.drop k) (x.says.drop k) = saysOk cc.traits x.says) (fun k => [(9, .int .i64 k)]) (fun k => [ownB b7 (cellsB 37 [.string cc.name, .slice cc.At cc.traits.length cc.ct, .slice cc.Ap cc.parts.length cc.cp, .int .i64 cc.most]), ownB b4 (cellsB 26 [.string x.cls, .slice x.As x.says.length x.cs, .slice x.Ap x.parts.length x.cp])]) (fun k => [sl (fun b => b < w.heap.size) 1 enStr cc.Ap cc.parts, sl (fun b => b < w.heap.size) 3 encTr cc.At cc.traits, sl (fun b => b < w.heap.size) 3 encIt x.Ap x.parts, sl (fun b => b < w.heap.size) 1 enStr x.As x.says, sl (fun b => b < w.heap.size) 4 encCl A l]) (fun k => x.says.length - k) 0 (⟨Nat.zero_le _, rfl⟩) ⟨rfl, rfl, rfl, rfl, rfl, trivial⟩ ?_
    rintro k ⟨hk, hso⟩
    dsimp only [List.cons_append, List.nil_append]
    refine cj_seq (cj_seq ?_)
    refine cj_regionG (gj_step (y_move rfl) rfl rfl rfl (gj_step (y_fa fa26_1 rfl) rfl rfl rfl (gj_step (y_load1 Tryz.isAgg23 rfl rfl) rfl rfl rfl (gj_step (y_lenA Tryz.underlying23 rfl) rfl rfl rfl (gj_step (y_lss rfl rfl) rfl rfl rfl (gj_nil ?_))))))
    refine ej_th ?_
    refine cj_cond rfl (fun h45 => ?_) (fun h45 => ?_)
    · have h45b := h45
      try simp only [sxb] at h45
      obtain ⟨t, ht⟩ : ∃ t, cc.traits[k]? = some t := ⟨_, List.getElem?_eq_getElem (by omega)⟩
      obtain ⟨s, hs⟩ : ∃ s, x.says[k]? = some s := ⟨_, List.getElem?_eq_getElem (by omega)⟩
      rw [saysOk_drop _ _ k t s ht hs] at hso
      have hg2 := hg1.tr t (List.mem_of_getElem? ht)
      have hl5 := hg2.rd.len
      refine cj_rd hg2.rd (fun _ h => h) ?_
      refine cj_skip (ej_th (cj_seq (cj_block (cj_seq (cj_region ?_)))))
      refine oj_step (y_fa fa37_1 rfl) rfl rfl rfl ?_
      refine oj_step (y_load1 Tryz.isAgg35 rfl rfl) rfl rfl rfl ?_
      refine oj_step (y_move rfl) rfl rfl rfl ?_
      refine oj_step (y_ixR (reads_sl) Tryz.underlying35 Tryz.sizeOf39 rfl rfl (⟨by omega, by omega⟩)) rfl rfl rfl ?_
      refine oj_step (y_ldW (reads_sl) Tryz.isAgg39 Tryz.sizeOf39 rfl (ht) (fun _ => rfl)) rfl rfl rfl ?_
      refine oj_alloc Tryz.zeroValue39 rfl rfl (fun b10 => ?_)
      refine oj_store rfl rfl rfl rfl Tryz.sizeOf39 rfl ?_
      refine oj_nil ?_
      refine ej_th (cj_seq ?_)
      refine cj_draw (by kernel_rfl) (by kernel_rfl) ?_
      refine gj_step (y_fa fa26_1 rfl) rfl rfl rfl (gj_step (y_load1 Tryz.isAgg23 rfl rfl) rfl rfl rfl (gj_step (y_move rfl) rfl rfl rfl (gj_step (y_ixR (reads_sl) Tryz.underlying23 Tryz.sizeOf9 rfl rfl (⟨by omega, by omega⟩)) rfl rfl rfl (gj_step (y_ld0 (reads_sl) Tryz.isAgg9 rfl (hs) rfl) rfl rfl rfl (gj_step (y_eqlS rfl rfl) rfl rfl rfl (gj_step (y_move rfl) rfl rfl rfl (?_)))))))
      refine gj_g 2 59 61 rfl rfl rfl rfl (fun hg59 => gj_yes rfl rfl rfl (y_fa fa39_2 rfl) rfl rfl (gj_yes rfl rfl rfl (y_load1 Tryz.isAgg4 rfl rfl) rfl rfl (gj_nil rfl))) ?_
      refine gj_step (y_and rfl rfl rfl) rfl rfl rfl (gj_step (y_move rfl) rfl rfl rfl (?_))
      refine gj_g 17 63 80 rfl rfl rfl rfl (fun hg63 => gj_yes rfl rfl rfl (y_fa fa26_1 rfl) rfl rfl (gj_yes rfl rfl rfl (y_load1 Tryz.isAgg23 rfl rfl) rfl rfl (gj_yes rfl rfl rfl (y_move rfl) rfl rfl (gj_yes rfl rfl rfl (y_ixR (reads_sl) Tryz.underlying23 Tryz.sizeOf9 rfl rfl (⟨by omega, by omega⟩)) rfl rfl (gj_yes rfl rfl rfl (y_ld0 (reads_sl) Tryz.isAgg9 rfl (hs) rfl) rfl rfl (gj_yes rfl rfl rfl (y_neqS rfl rfl) rfl rfl (gj_yes rfl rfl rfl (y_move rfl) rfl rfl (gj_g 9 70 79 rfl rfl rfl rfl (fun hg70 => gj_yes rfl rfl rfl (y_fa fa39_1 rfl) rfl rfl (gj_yes rfl rfl rfl (y_load1 Tryz.isAgg23 rfl rfl) rfl rfl (gj_yes rfl rfl rfl (y_fa fa26_1 rfl) rfl rfl (gj_yes rfl rfl rfl (y_load1 Tryz.isAgg23 rfl rfl) rfl rfl (gj_yes rfl rfl rfl (y_move rfl) rfl rfl (gj_yes rfl rfl rfl (y_ixR (reads_sl) Tryz.underlying23 Tryz.sizeOf9 rfl rfl (⟨by omega, by omega⟩)) rfl rfl (gj_yes rfl rfl rfl (y_ld0 (reads_sl) Tryz.isAgg9 rfl (hs) rfl) rfl rfl (gj_yes rfl rfl rfl (y_call Tryz.call74 rfl (fun w hp => k_SeekText t.vals t.A t.c s w hp.rd)) rfl rfl (gj_yes rfl rfl rfl (y_lss rfl rfl) rfl rfl (gj_nil rfl)))))))))) (gj_yes rfl rfl rfl (y_and rfl rfl rfl) rfl rfl (gj_nil rfl)))))))))) ?_
      refine gj_step (y_or rfl rfl rfl) rfl rfl rfl (?_)
      refine gj_nil ?_
      refine ej_th ?_
      refine cj_cond rfl (fun h81 => ?_) (fun h81 => ?_)
      · have h81b := h81
        try simp only [sxb] at h81
        rw [firstS_neg] at h81b
        have hon : saysOne t s = false := congrArg Bool.not h81b
        refine cj_seq ?_
        refine cj_regionG (gj_step (y_assign rfl) rfl rfl rfl (gj_nil ?_))
        refine ej_th (cj_ret (ej_blk_ret (ej_then_ret (ej_then_ret (ej_blk_ret (ej_then_ret ?_))))))
        refine ej_ret1 rfl Tryz.results58 rfl (fun w' hp => ⟨?_, hp.below⟩)
        rw [hve, ← hso, hon]; rfl
      · have h81b := h81
        try simp only [sxb] at h81
        rw [firstS_neg] at h81b
        have hon : saysOne t s = true := congrArg Bool.not h81b
        refine cj_skip (ej_blk (ej_th ?_))
        refine cj_regionG (gj_step (y_move rfl) rfl rfl rfl (gj_step (y_add rfl rfl (by omega)) rfl rfl rfl (gj_step (y_assign rfl) rfl rfl rfl (gj_nil ?_))))
        exact ej_nx (k + 1) (by omega) ⟨by omega, by rw [← hso, hon, Bool.true_and]⟩ ⟨rfl, rfl, rfl, rfl, rfl, trivial⟩
    · have h45b := h45
      try simp only [sxb] at h45
      have hsk : saysOk cc.traits x.says = true := by rw [← hso, List.drop_of_length_le (show x.says.length ≤ k by omega)]; cases cc.traits.drop k <;> rfl
      rw [hsk, Bool.true_and] at hve
      refine cj_exit (ej_then_exit (ej_then_exit (ej_blk_hit (ej_th (cj_seq (cj_seq ?_))))))
      refine cj_regionG (gj_step (y_assign rfl) rfl rfl rfl (gj_nil ?_))
      refine ej_th (cj_block ?_)
      refine cj_lpic (X := Nat) [(0, _), (2, _), (4, _), (7, _)] (fun j => j ≤ x.parts.length ∧ valL l cc.parts (x.parts.drop j) deep = valL l cc.parts x.parts deep) (fun j => [(11, .int .i64 j)]) (fun j => x.parts.length - j) 0 (⟨Nat.zero_le _, rfl⟩) ⟨rfl, rfl, rfl, rfl, rfl, trivial⟩ ?_
      rintro j ⟨hj, hsj⟩
      dsimp only [List.cons_append, List.nil_append]
      refine cj_seq (cj_seq ?_)
      refine cj_regionG (gj_step (y_move rfl) rfl rfl rfl (gj_step (y_fa fa26_2 rfl) rfl rfl rfl (gj_step (y_load1 Tryz.isAgg24 rfl rfl) rfl rfl rfl (gj_step (y_lenA Tryz.underlying24 rfl) rfl rfl rfl (gj_step (y_lss rfl rfl) rfl rfl rfl (gj_nil ?_))))))
      refine ej_th ?_
      refine cj_cond rfl (fun h86 => ?_) (fun h86 => ?_)
      · have h86b := h86
        try simp only [sxb] at h86
        obtain ⟨q, hq⟩ : ∃ q, x.parts[j]? = some q := ⟨_, List.getElem?_eq_getElem (by omega)⟩
        rw [valL_drop _ _ _ _ j q hq] at hsj
        refine cj_skip (ej_th (cj_seq (cj_block (cj_seq ?_))))
        refine cj_draw (by kernel_rfl) (by kernel_rfl) ?_
        refine gj_step (y_fa fa37_2 rfl) rfl rfl rfl (gj_step (y_load1 Tryz.isAgg23 rfl rfl) rfl rfl rfl (gj_step (y_fa fa26_2 rfl) rfl rfl rfl (gj_step (y_load1 Tryz.isAgg24 rfl rfl) rfl rfl rfl (gj_step (y_move rfl) rfl rfl rfl (gj_step (y_ixR (reads_sl) Tryz.underlying24 Tryz.sizeOf26 rfl rfl (⟨by omega, by omega⟩)) rfl rfl rfl (gj_step (y_faE fa26_0 rfl) rfl rfl rfl (gj_step (y_ld1 (reads_sl) Tryz.isAgg9 rfl (hq) rfl) rfl rfl rfl (?_))))))))
        refine gj_step (y_call Tryz.call74 rfl (fun w hp => k_SeekText cc.parts cc.Ap cc.cp q.cls w hp.rd)) rfl rfl rfl ?_
        refine gj_step (y_lss rfl rfl) rfl rfl rfl (gj_step (y_move rfl) rfl rfl rfl (?_))
        refine gj_g 10 99 109 rfl rfl rfl rfl (fun hg99 => gj_yes rfl rfl rfl (y_move rfl) rfl rfl (gj_yes rfl rfl rfl (y_fa fa26_2 rfl) rfl rfl (gj_yes rfl rfl rfl (y_load1 Tryz.isAgg24 rfl rfl) rfl rfl (gj_yes rfl rfl rfl (y_move rfl) rfl rfl (gj_yes rfl rfl rfl (y_ixR (reads_sl) Tryz.underlying24 Tryz.sizeOf26 rfl rfl (⟨by omega, by omega⟩)) rfl rfl (gj_yes rfl rfl rfl (y_ldW (reads_sl) Tryz.isAgg26 Tryz.sizeOf26 rfl (hq) (fun _ => rfl)) rfl rfl (gj_yes rfl rfl rfl (y_move rfl) rfl rfl (gj_yes rfl rfl rfl (y_add rfl rfl (by omega)) rfl rfl (gj_yes rfl rfl rfl (y_call Tryz.call58 rfl (fun w hp => ih q (List.mem_of_getElem? hq) w (deep + 1) hp.below (by omega))) rfl rfl (gj_yes rfl rfl rfl (y_not rfl) rfl rfl (gj_nil rfl))))))))))) ?_
        refine gj_step (y_or rfl rfl rfl) rfl rfl rfl (?_)
        refine gj_nil ?_
        refine ej_th ?_
        refine cj_cond rfl (fun h110 => ?_) (fun h110 => ?_)
        · have h110b := h110
          try simp only [sxb] at h110
          have hbad : (hasW cc.parts q.cls && valI l q (deep + 1)) = false := by rw [firstS_neg] at h110b; cases h1 : hasW cc.parts q.cls <;> cases h2 : valI l q (deep + 1) <;> simp [h1, h2] at h110b ⊢
          refine cj_seq ?_
          refine cj_regionG (gj_step (y_assign rfl) rfl rfl rfl (gj_nil ?_))
          refine ej_th (cj_ret (ej_blk_ret (ej_then_ret (ej_then_ret (ej_blk_ret (ej_then_ret ?_))))))
          refine ej_ret1 rfl Tryz.results58 rfl (fun w' hp => ⟨?_, hp.below⟩)
          rw [hve, ← hsj, hbad]; rfl
        · have h110b := h110
          try simp only [sxb] at h110
          have hgood : (hasW cc.parts q.cls && valI l q (deep + 1)) = true := by rw [firstS_neg] at h110b; cases h1 : hasW cc.parts q.cls <;> cases h2 : valI l q (deep + 1) <;> simp [h1, h2] at h110b ⊢
          refine cj_skip (ej_blk (ej_th ?_))
          refine cj_regionG (gj_step (y_move rfl) rfl rfl rfl (gj_step (y_add rfl rfl (by omega)) rfl rfl rfl (gj_step (y_assign rfl) rfl rfl rfl (gj_nil ?_))))
          exact ej_nx (j + 1) (by omega) ⟨by omega, by rw [← hsj, hgood, Bool.true_and]⟩ ⟨rfl, rfl, rfl, rfl, rfl, trivial⟩
      · have h86b := h86
        try simp only [sxb] at h86
        refine cj_exit (ej_then_exit (ej_then_exit (ej_blk_hit (ej_th (cj_seq ?_)))))
        refine cj_regionG (gj_step (y_assign rfl) rfl rfl rfl (gj_nil ?_))
        refine ej_th (cj_ret ?_)
        refine ej_ret1 rfl Tryz.results58 rfl (fun w' hp => ⟨?_, hp.below⟩)
        rw [hve, ← hsj, List.drop_of_length_le (show x.parts.length ≤ j by omega), valL]

theorem k_val (l : List ClassV) (A : Option Addr) (c : Nat) {w0 : World} {x : ItemV} (hx : GoodI w0 x) : ∀ (w : World) (deep : Int), Grow w0 w → gramOk l = true → Rd w 4 encCl A l → (∀ c ∈ l, GoodC w c) → 0 ≤ deep ∧ deep ≤ 100 → Calls Tryz.prog 58 #[.slice A l.length c, evI x, .int .i64 deep] w (fun e w' => e = .returned (.bool (valI l x deep)) ∧ Grow w w') := by
  induction hx with
  | mk hs hp hn hm hr ih =>
    intro w deep hg hgo hl hgc hd
    exact k_val1 l A c _ deep w hl hgc hgo ((GoodI.mk hs hp hn hm hr).mono hg) hd (fun p hpm w1 dp hg1 h1 => ih p hpm w1 dp (grow_trans hg hg1) hgo (hl.mono hg1) (fun q hq => (hgc q hq).mono hg1) h1)

theorem k_cnt1 (x : ItemV) (g : List (ByteArray × ClassV)) (w : World) (hx : GoodI w x) (ho : OkT g x.pl) (hcn : cntT x.pl ≤ 1000) (ih : ∀ p ∈ x.parts, ∀ (w1 : World), Grow w w1 → Calls Tryz.prog 59 #[evI p] w1 (fun e w' => e = .returned (.tuple #[.int .i64 (cntT p.pl), .int .i64 (sdT p.pl)]) ∧ Grow w1 w')) : Calls Tryz.prog 59 #[evI x] w (fun e w' => e = .returned (.tuple #[.int .i64 (cntT x.pl), .int .i64 (sdT x.pl)]) ∧ Grow w w') := by
  have hl1 := hx.rs.len
  have hl2 := hx.rp.len
  obtain ⟨cc, _, hsl, ht8, _⟩ := ho.get
  rw [pl_says] at hsl
  have hce := cntT_eq x.pl
  rw [pl_parts, ← plL_map] at hce
  have hse := sdT_eq x.pl
  rw [pl_says, pl_parts, ← plL_map] at hse
  have hsb := sd_bd x.pl ho
  have hsn0 := saidN_bd x.says
  refine enter_pure (args := [evI x]) [] Tryz.func59 rfl (by rw [Tryz.ntmps59]; simp) (by simp) ?_
  refine cj_seq (cj_region ?_)
  refine oj_box rfl rfl rfl (fun b1 => ?_)
  refine oj_step (y_assign rfl) rfl rfl rfl ?_
  refine oj_step (y_assign rfl) rfl rfl rfl ?_
  refine oj_nil ?_
  refine ej_th (cj_seq ?_)
  refine cj_rd hx.rs (fun _ h => h) ?_
  refine cj_rd hx.rp (fun _ h => h) ?_
  refine cj_regionG (gj_step (y_assign rfl) rfl rfl rfl (gj_step (y_assign rfl) rfl rfl rfl (gj_nil ?_)))
  refine ej_th (cj_seq (cj_seq ?_))
  refine cj_regionG (gj_step (y_assign rfl) rfl rfl rfl (gj_nil ?_))
  refine ej_th (cj_block ?_)
  skip
  refine cj_lpic (X := Nat) [(1, _), (2, _), (3, _), (4, _)] (fun k => k ≤ x.says.length) (fun k => [(5, .int .i64 (saidN (x.says.take k))), (6, .int .i64 k)]) (fun k => x.says.length - k) 0 (Nat.zero_le _) ⟨rfl, rfl, rfl, rfl, rfl, rfl, trivial⟩ ?_
  rintro k hk
  dsimp only [List.cons_append, List.nil_append]
  refine cj_seq (cj_seq ?_)
  refine cj_regionG (gj_step (y_move rfl) rfl rfl rfl (gj_step (y_fa fa26_1 rfl) rfl rfl rfl (gj_step (y_load1 Tryz.isAgg23 rfl rfl) rfl rfl rfl (gj_step (y_lenA Tryz.underlying23 rfl) rfl rfl rfl (gj_step (y_lss rfl rfl) rfl rfl rfl (gj_nil ?_))))))
  refine ej_th ?_
  refine cj_cond rfl (fun h14 => ?_) (fun h14 => ?_)
  · have h14b := h14
    try simp only [sxb] at h14
    obtain ⟨s, hs⟩ : ∃ s, x.says[k]? = some s := ⟨_, List.getElem?_eq_getElem (by omega)⟩
    have hst := saidN_take x.says k s hs
    have hsb2 := saidN_bd (x.says.take k)
    have htl : (x.says.take k).length ≤ 8 := by rw [List.length_take]; omega
    refine cj_skip (ej_th (cj_seq (cj_block (cj_seq ?_))))
    refine cj_regionG (gj_step (y_fa fa26_1 rfl) rfl rfl rfl (gj_step (y_load1 Tryz.isAgg23 rfl rfl) rfl rfl rfl (gj_step (y_move rfl) rfl rfl rfl (gj_step (y_ixR (reads_sl) Tryz.underlying23 Tryz.sizeOf9 rfl rfl (⟨by omega, by omega⟩)) rfl rfl rfl (gj_step (y_ld0 (reads_sl) Tryz.isAgg9 rfl (hs) rfl) rfl rfl rfl (gj_step (y_neqS rfl rfl) rfl rfl rfl (gj_nil ?_)))))))
    refine ej_th ?_
    refine cj_cond rfl (fun h22 => ?_) (fun h22 => ?_)
    · have h22b := h22
      try simp only [sxb] at h22
      rw [if_neg (show ¬ (s == (⟨#[]⟩ : ByteArray)) = true by rw [not_t h22b]; simp)] at hst
      refine cj_regionG (gj_step (y_move rfl) rfl rfl rfl (gj_step (y_add rfl rfl (by omega)) rfl rfl rfl (gj_step (y_assign rfl) rfl rfl rfl (gj_nil ?_))))
      refine ej_blk (ej_th ?_)
      refine cj_regionG (gj_step (y_move rfl) rfl rfl rfl (gj_step (y_add rfl rfl (by omega)) rfl rfl rfl (gj_step (y_assign rfl) rfl rfl rfl (gj_nil ?_))))
      rw [← hst]
      exact ej_nx (k + 1) (by omega) (by omega) ⟨rfl, rfl, rfl, rfl, rfl, rfl, trivial⟩
    · have h22b := h22
      try simp only [sxb] at h22
      rw [if_pos (not_f h22b)] at hst
      refine cj_skip (ej_blk (ej_th ?_))
      refine cj_regionG (gj_step (y_move rfl) rfl rfl rfl (gj_step (y_add rfl rfl (by omega)) rfl rfl rfl (gj_step (y_assign rfl) rfl rfl rfl (gj_nil ?_))))
      rw [show saidN (x.says.take k) = saidN (x.says.take (k + 1)) by omega]
      exact ej_nx (k + 1) (by omega) (by omega) ⟨rfl, rfl, rfl, rfl, rfl, rfl, trivial⟩
  · have h14b := h14
    try simp only [sxb] at h14
    rw [List.take_of_length_le (show x.says.length ≤ k by omega)]
    refine cj_exit (ej_then_exit (ej_then_exit (ej_blk_hit (ej_th (cj_seq (cj_seq ?_))))))
    refine cj_regionG (gj_step (y_assign rfl) rfl rfl rfl (gj_nil ?_))
    refine ej_th (cj_block ?_)
    refine cj_lpic (X := Nat × Int × Int) [(1, _), (2, _), (3, _)] (fun ⟨j, n, m⟩ => j ≤ x.parts.length ∧ (1 ≤ n ∧ 0 ≤ m) ∧ n + cntL (plL (x.parts.drop j)) = cntT x.pl ∧ m + sdL (plL (x.parts.drop j)) = sdT x.pl) (fun ⟨j, n, m⟩ => [(4, .int .i64 n), (5, .int .i64 m), (7, .int .i64 j)]) (fun ⟨j, n, m⟩ => x.parts.length - j) (0, 1, saidN x.says) (⟨Nat.zero_le _, ⟨Int.le_refl _, hsn0.1⟩, hce.symm, hse.symm⟩) ⟨rfl, rfl, rfl, rfl, rfl, rfl, trivial⟩ ?_
    rintro ⟨j, n, m⟩ ⟨hj, hnm, hn1, hm1⟩
    dsimp only [List.cons_append, List.nil_append]
    refine cj_seq (cj_seq ?_)
    refine cj_regionG (gj_step (y_move rfl) rfl rfl rfl (gj_step (y_fa fa26_2 rfl) rfl rfl rfl (gj_step (y_load1 Tryz.isAgg24 rfl rfl) rfl rfl rfl (gj_step (y_lenA Tryz.underlying24 rfl) rfl rfl rfl (gj_step (y_lss rfl rfl) rfl rfl rfl (gj_nil ?_))))))
    refine ej_th ?_
    refine cj_cond rfl (fun h29 => ?_) (fun h29 => ?_)
    · have h29b := h29
      try simp only [sxb] at h29
      obtain ⟨q, hq⟩ : ∃ q, x.parts[j]? = some q := ⟨_, List.getElem?_eq_getElem (by omega)⟩
      obtain ⟨hd1, hd2⟩ := cntL_drop x.parts j q hq
      have hqo : OkT g q.pl := ho.pt _ (by rw [pl_parts]; exact List.mem_map.2 ⟨q, List.mem_of_getElem? hq, rfl⟩)
      have hqs := sd_bd q.pl hqo
      have hqc := cnt_pos q.pl
      have hrp := cntL_pos (plL (x.parts.drop (j + 1)))
      have hrs := (sdL_bd (g := g) (plL (x.parts.drop (j + 1))) (fun p hp => by rw [plL_map] at hp; obtain ⟨r, hr, rfl⟩ := List.mem_map.1 hp; exact ho.pt _ (by rw [pl_parts]; exact List.mem_map.2 ⟨r, List.mem_of_mem_drop hr, rfl⟩))).1
      refine cj_skip (ej_th (cj_seq (cj_block (cj_seq ?_))))
      refine cj_regionG ?_
      refine gj_step (y_fa fa26_2 rfl) rfl rfl rfl (gj_step (y_load1 Tryz.isAgg24 rfl rfl) rfl rfl rfl (gj_step (y_move rfl) rfl rfl rfl (gj_step (y_ixR (reads_sl) Tryz.underlying24 Tryz.sizeOf26 rfl rfl (⟨by omega, by omega⟩)) rfl rfl rfl (gj_step (y_ldW (reads_sl) Tryz.isAgg26 Tryz.sizeOf26 rfl (hq) (fun _ => rfl)) rfl rfl rfl (?_)))))
      refine gj_step (y_call Tryz.call59 rfl (fun w hp => ih q (List.mem_of_getElem? hq) w hp.below)) rfl rfl rfl ?_
      refine gj_step (y_move rfl) rfl rfl rfl (gj_step (y_extract rfl rfl) rfl rfl rfl (gj_step (y_extract rfl rfl) rfl rfl rfl (gj_step (y_assign rfl) rfl rfl rfl (gj_step (y_assign rfl) rfl rfl rfl (?_)))))
      refine gj_nil ?_
      refine ej_th ?_
      refine cj_regionG (gj_step (y_move rfl) rfl rfl rfl (gj_step (y_move rfl) rfl rfl rfl (gj_step (y_add rfl rfl (by omega)) rfl rfl rfl (gj_step (y_move rfl) rfl rfl rfl (gj_step (y_move rfl) rfl rfl rfl (gj_step (y_add rfl rfl (by omega)) rfl rfl rfl (gj_step (y_assign rfl) rfl rfl rfl (gj_step (y_assign rfl) rfl rfl rfl (gj_nil ?_)))))))))
      refine ej_blk (ej_th ?_)
      refine cj_regionG (gj_step (y_move rfl) rfl rfl rfl (gj_step (y_add rfl rfl (by omega)) rfl rfl rfl (gj_step (y_assign rfl) rfl rfl rfl (gj_nil ?_))))
      exact ej_nx (j + 1, n + cntT q.pl, m + sdT q.pl) (by simp only; omega) ⟨by first | omega | (simp only; omega), by simp only; omega, by simp only; omega, by simp only; omega⟩ ⟨rfl, rfl, rfl, rfl, rfl, rfl, trivial⟩
    · have h29b := h29
      try simp only [sxb] at h29
      rw [List.drop_of_length_le (show x.parts.length ≤ j by omega), plL, cntL] at hn1
      rw [List.drop_of_length_le (show x.parts.length ≤ j by omega), plL, sdL] at hm1
      refine cj_exit (ej_then_exit (ej_then_exit (ej_blk_hit (ej_th (cj_seq ?_)))))
      refine cj_regionG (gj_step (y_move rfl) rfl rfl rfl (gj_step (y_move rfl) rfl rfl rfl (gj_step (y_assign rfl) rfl rfl rfl (gj_step (y_assign rfl) rfl rfl rfl (gj_nil ?_)))))
      refine ej_th (cj_ret ?_)
      refine ej_ret2 rfl Tryz.results59 rfl rfl (fun w' hp => ⟨?_, hp.below⟩)
      rw [show n = cntT x.pl by omega, show m = sdT x.pl by omega]

theorem k_cnt {w0 : World} {g : List (ByteArray × ClassV)} {x : ItemV} (hx : GoodI w0 x) : ∀ (w : World), Grow w0 w → OkT g x.pl → cntT x.pl ≤ 1000 → Calls Tryz.prog 59 #[evI x] w (fun e w' => e = .returned (.tuple #[.int .i64 (cntT x.pl), .int .i64 (sdT x.pl)]) ∧ Grow w w') := by
  induction hx with
  | @mk x hs hp hn hm hr ih =>
    intro w hg ho hc
    exact k_cnt1 _ g w ((GoodI.mk hs hp hn hm hr).mono hg) ho hc (fun p hpm w1 hg1 => ih p hpm w1 (grow_trans hg hg1) (ho.pt _ (by rw [pl_parts]; exact List.mem_map.2 ⟨p, hpm, rfl⟩)) (by
      have h1 := cntT_eq x.pl
      have h2 := cntL_mem x.pl.parts p.pl (by rw [pl_parts]; exact List.mem_map.2 ⟨p, hpm, rfl⟩)
      omega))

theorem k_rCheck (l : List ClassV) (A : Option Addr) (c : Nat) (x : ItemV) (w : World) (hl : Rd w 4 encCl A l) (hgc : ∀ c ∈ l, GoodC w c) (hx : GoodI w x) : Calls Tryz.prog 29 #[.slice A l.length c, evI x] w (fun e w' => e = .returned (.int .i64 (askIE l [x])) ∧ Grow w w') := by
  refine enter_pure (args := [.slice A l.length c, evI x]) [sl (fun b => b < w.heap.size) 4 encCl A l] Tryz.func29 rfl (by rw [Tryz.ntmps29]; simp) (fun g hg => by simp at hg; subst hg; exact ⟨hl, fun _ h => h⟩) ?_
  refine cj_seq (cj_region ?_)
  refine oj_box rfl rfl rfl (fun b3 => ?_)
  refine oj_step (y_assign rfl) rfl rfl rfl ?_
  refine oj_nil ?_
  refine ej_th (cj_seq (cj_seq ?_))
  refine cj_regionG ?_
  refine gj_step (y_move rfl) rfl rfl rfl (?_)
  refine gj_step (y_call Tryz.call35 rfl (fun w hp => k_rCheckG l A c w hp.rd (fun q hq => (hgc q hq).mono hp.below))) rfl rfl rfl ?_
  refine gj_step (y_assign rfl) rfl rfl rfl (?_)
  refine gj_nil ?_
  refine ej_th (cj_seq ?_)
  refine cj_regionG (gj_step (y_move rfl) rfl rfl rfl (gj_step (y_neq rfl rfl) rfl rfl rfl (gj_nil ?_)))
  refine ej_th ?_
  refine cj_cond rfl (fun h11 => ?_) (fun h11 => ?_)
  · have h11b := h11
    try simp only [sxb] at h11
    have hno := gram_n h11b
    refine cj_seq ?_
    refine cj_regionG (gj_step (y_move rfl) rfl rfl rfl (gj_step (y_assign rfl) rfl rfl rfl (gj_nil ?_)))
    refine ej_th (cj_ret (ej_then_ret ?_))
    refine ej_ret1 rfl Tryz.results29 rfl (fun w' hp => ⟨?_, hp.below⟩)
    rw [ask_r1 x hno, gramE, hno]; rfl
  · have h11b := h11
    try simp only [sxb] at h11
    have hgo := gram_0 h11b
    refine cj_skip (ej_th (cj_seq (cj_seq ?_)))
    refine cj_regionG ?_
    refine gj_step (y_move rfl) rfl rfl rfl (gj_step (y_loadN Tryz.isAgg26 Tryz.sizeOf26 rfl) rfl rfl rfl (?_))
    refine gj_step (y_call Tryz.call58 rfl (fun w hp => k_val l A c hx w 1 hp.below hgo hp.rd (fun q hq => (hgc q hq).mono hp.below) (by omega))) rfl rfl rfl ?_
    refine gj_step (y_not rfl) rfl rfl rfl (?_)
    refine gj_nil ?_
    refine ej_th ?_
    refine cj_cond rfl (fun h16 => ?_) (fun h16 => ?_)
    · have h16b := h16
      try simp only [sxb] at h16
      refine cj_seq ?_
      refine cj_regionG (gj_step (y_assign rfl) rfl rfl rfl (gj_nil ?_))
      refine ej_th (cj_ret (ej_then_ret ?_))
      refine ej_ret1 rfl Tryz.results29 rfl (fun w' hp => ⟨?_, hp.below⟩)
      rw [ask_r2 hgo (not_t h16b)]
    · have h16b := h16
      try simp only [sxb] at h16
      have hvv := not_f h16b
      obtain ⟨_, hvo, hvc⟩ := val_cnt hgo x 1 hvv (by omega)
      rw [if_neg (by omega), if_neg (by omega)] at hvc
      refine cj_skip (ej_th (cj_seq (cj_seq ?_)))
      refine cj_regionG ?_
      refine gj_step (y_loadN Tryz.isAgg26 Tryz.sizeOf26 rfl) rfl rfl rfl (?_)
      refine gj_step (y_call Tryz.call59 rfl (fun w hp => k_cnt hx w hp.below hvo (by omega))) rfl rfl rfl ?_
      refine gj_step (y_move rfl) rfl rfl rfl (gj_step (y_extract rfl rfl) rfl rfl rfl (gj_step (y_extract rfl rfl) rfl rfl rfl (gj_step (y_assign rfl) rfl rfl rfl (gj_step (y_assign rfl) rfl rfl rfl (?_)))))
      refine gj_nil ?_
      refine ej_th (cj_seq ?_)
      refine cj_regionG (gj_step (y_move rfl) rfl rfl rfl (gj_step (y_gtr rfl rfl) rfl rfl rfl (gj_nil ?_)))
      refine ej_th ?_
      refine cj_cond rfl (fun h23 => ?_) (fun h23 => ?_)
      · have h23b := h23
        try simp only [sxb] at h23
        refine cj_seq ?_
        refine cj_regionG (gj_step (y_assign rfl) rfl rfl rfl (gj_nil ?_))
        refine ej_th (cj_ret (ej_then_ret ?_))
        refine ej_ret1 rfl Tryz.results29 rfl (fun w' hp => ⟨?_, hp.below⟩)
        rw [ask_r3 hgo (by omega)]
      · have h23b := h23
        try simp only [sxb] at h23
        refine cj_skip (ej_th (cj_seq ?_))
        refine cj_regionG (gj_step (y_assign rfl) rfl rfl rfl (gj_nil ?_))
        refine ej_th (cj_ret ?_)
        refine ej_ret1 rfl Tryz.results29 rfl (fun w' hp => ⟨?_, hp.below⟩)
        rw [ask_r4 hgo hvv (by omega)]

end Go.Proofs.YtlfbghkcfmcnlaaGreatDoor
namespace Go.Proofs.YtlfbghkcfmcnlaaGreatDoor
open Go.Sx Go.RowKit
set_option maxRecDepth 20000
end Go.Proofs.YtlfbghkcfmcnlaaGreatDoor
namespace Go.Proofs.YtlfbghkcfmcnlaaGreatDoor
open Go.Sx Go.RowKit
set_option maxRecDepth 20000
set_option maxHeartbeats 2000000 in
theorem k_rtext1 (l : List ClassV) (A : Option Addr) (c : Nat) (x : ItemV) (w : World) (hl : Rd w 4 encCl A l) (hgc : ∀ c ∈ l, GoodC w c) (hgo : gramOk l = true) (hx : GoodI w x) (ho : OkT (gramM l) x.pl) (hcn : cntT x.pl ≤ 24) (ih : ∀ p ∈ x.parts, ∀ (w1 : World), Grow w w1 → Calls Tryz.prog 30 #[.slice A l.length c, evI p] w1 (fun e w' => e = .returned (.string (txtT (gramM l) p.pl)) ∧ Grow w1 w')) : Calls Tryz.prog 30 #[.slice A l.length c, evI x] w (fun e w' => e = .returned (.string (txtT (gramM l) x.pl)) ∧ Grow w w') := by
  have hl1 := hx.rs.len
  have hl2 := hx.rp.len
  obtain ⟨cc, hgc0, hsl, ht8, htn⟩ := ho.get
  rw [pl_cls] at hgc0
  rw [pl_says] at hsl
  have hcc : clsOf l x.cls = some cc := by rw [← getL_gram hgo]; exact hgc0
  have hcm : cc ∈ l := List.mem_of_find?_eq_some hcc
  have hg1 := hgc cc hcm
  have htr : traitsOf (gramM l) x.cls = cc.traits := by unfold traitsOf; rw [hgc0]; rfl
  have hTX := txt_eq (gramM l) x.pl
  rw [pl_cls, htr, pl_says] at hTX
  have hsz := txt_size ho hcn
  have hss16 : ∀ s ∈ x.says, s.size ≤ 16 := by have := ho.ssz; rw [pl_says] at this; exact this
  obtain ⟨TX, hTXe⟩ : ∃ T, T = txtT (gramM l) x.pl := ⟨_, rfl⟩
  obtain ⟨ET, hET⟩ : ∃ E, E = bl (if x.pl.parts.length = 0 then [] else [tClose]) := ⟨_, rfl⟩
  rw [← hTXe] at hTX hsz ⊢
  rw [← hET] at hTX
  refine enter_pure (args := [.slice A l.length c, evI x]) [sl (fun b => b < w.heap.size) 4 encCl A l] Tryz.func30 rfl (by rw [Tryz.ntmps30]; simp) (fun g hg => by simp at hg; subst hg; exact ⟨hl, fun _ h => h⟩) ?_
  refine cj_seq (cj_region ?_)
  refine oj_box rfl rfl rfl (fun b3 => ?_)
  refine oj_step (y_assign rfl) rfl rfl rfl ?_
  refine oj_nil ?_
  refine ej_th (cj_seq (cj_region ?_))
  refine oj_step (y_move rfl) rfl rfl rfl ?_
  refine oj_step (y_loadN Tryz.isAgg26 Tryz.sizeOf26 rfl) rfl rfl rfl ?_
  refine oj_step (y_call Tryz.call60 rfl (fun w hp => by have h := k_class l A c x w hp.rd hgo; rw [hcc] at h; exact (show Calls Tryz.prog 60 _ w (fun e w' => e = .returned (.tuple #[evC cc, .bool true]) ∧ Grow w w') from h))) rfl rfl rfl ?_
  refine oj_step (y_move rfl) rfl rfl rfl ?_
  refine oj_step (y_extract rfl rfl) rfl rfl rfl ?_
  refine oj_step (y_extract rfl rfl) rfl rfl rfl ?_
  refine oj_alloc Tryz.zeroValue37 rfl rfl (fun b5 => ?_)
  refine oj_store rfl rfl rfl rfl Tryz.sizeOf37 rfl ?_
  refine oj_step (y_assign rfl) rfl rfl rfl ?_
  refine oj_nil ?_
  refine ej_th (cj_seq ?_)
  refine cj_rd hx.rs (fun _ h => h) ?_
  refine cj_rd hx.rp (fun _ h => h) ?_
  refine cj_rd hg1.rt (fun _ h => h) ?_
  refine cj_regionG (gj_step (y_fa0 fa26_0 rfl) rfl rfl rfl (gj_step (y_load1 Tryz.isAgg9 rfl rfl) rfl rfl rfl (gj_step (y_assign rfl) rfl rfl rfl (gj_nil ?_))))
  refine ej_th (cj_seq (cj_seq ?_))
  refine cj_regionG (gj_step (y_assign rfl) rfl rfl rfl (gj_nil ?_))
  refine ej_th (cj_block ?_)
  refine cj_lpic (X := Nat × ByteArray) [(0, _), (3, _), (4, _), (5, _)] (fun ⟨k, s⟩ => k ≤ x.says.length ∧ s ++ (bl (saidTok (cc.traits.drop k) (x.says.drop k)) ++ (bl (tokP (gramM l) true x.pl.parts) ++ ET)) = TX) (fun ⟨k, s⟩ => [(7, .string s), (8, .int .i64 k)]) (fun ⟨k, s⟩ => x.says.length - k) (0, x.cls) (⟨Nat.zero_le _, hTX.symm⟩) ⟨rfl, rfl, rfl, rfl, rfl, rfl, trivial⟩ ?_
  rintro ⟨k, s⟩ ⟨hk, hin⟩
  dsimp only [List.cons_append, List.nil_append]
  have hss : s.size ≤ 10000 := by
    have h9 := congrArg ByteArray.size hin
    rw [ByteArray.size_append] at h9
    omega
  refine cj_seq (cj_seq ?_)
  refine cj_regionG (gj_step (y_move rfl) rfl rfl rfl (gj_step (y_fa fa26_1 rfl) rfl rfl rfl (gj_step (y_load1 Tryz.isAgg23 rfl rfl) rfl rfl rfl (gj_step (y_lenA Tryz.underlying23 rfl) rfl rfl rfl (gj_step (y_lss rfl rfl) rfl rfl rfl (gj_nil ?_))))))
  refine ej_th ?_
  refine cj_cond rfl (fun h22 => ?_) (fun h22 => ?_)
  · have h22b := h22
    try simp only [sxb] at h22
    obtain ⟨t, ht⟩ : ∃ t, cc.traits[k]? = some t := ⟨_, List.getElem?_eq_getElem (by omega)⟩
    obtain ⟨sv, hs⟩ : ∃ sv, x.says[k]? = some sv := ⟨_, List.getElem?_eq_getElem (by omega)⟩
    rw [saidTok_drop _ _ k t sv ht hs] at hin
    refine cj_skip (ej_th (cj_seq (cj_block (cj_seq ?_))))
    refine cj_regionG (gj_step (y_fa fa26_1 rfl) rfl rfl rfl (gj_step (y_load1 Tryz.isAgg23 rfl rfl) rfl rfl rfl (gj_step (y_move rfl) rfl rfl rfl (gj_step (y_ixR (reads_sl) Tryz.underlying23 Tryz.sizeOf9 rfl rfl (⟨by omega, by omega⟩)) rfl rfl rfl (gj_step (y_ld0 (reads_sl) Tryz.isAgg9 rfl (hs) rfl) rfl rfl rfl (gj_step (y_neqS rfl rfl) rfl rfl rfl (gj_nil ?_)))))))
    refine ej_th ?_
    refine cj_cond rfl (fun h30 => ?_) (fun h30 => ?_)
    · have h30b := h30
      try simp only [sxb] at h30
      rw [if_neg (show ¬ (sv == (⟨#[]⟩ : ByteArray)) = true by rw [not_t h30b]; simp), bl_cons] at hin
      refine cj_draw (by kernel_rfl) (by kernel_rfl) (gj_step (y_move rfl) rfl rfl rfl (gj_step (y_addS rfl rfl (by (try simp only [ByteArray.size_append]); have h1s : (⟨#[32]⟩ : ByteArray).size = 1 := rfl; have h2s : (⟨#[61]⟩ : ByteArray).size = 1 := rfl; have h3s : (⟨#[32, 40]⟩ : ByteArray).size = 2 := rfl; have h4s : (⟨#[32, 59]⟩ : ByteArray).size = 2 := rfl; have h5s : (⟨#[32, 41]⟩ : ByteArray).size = 2 := rfl; omega)) rfl rfl rfl (gj_step (y_fa fa37_1 rfl) rfl rfl rfl (gj_step (y_load1 Tryz.isAgg35 rfl rfl) rfl rfl rfl (gj_step (y_move rfl) rfl rfl rfl (gj_step (y_ixR (reads_sl) Tryz.underlying35 Tryz.sizeOf39 rfl rfl (⟨by omega, by omega⟩)) rfl rfl rfl (gj_step (y_faE fa39_0 rfl) rfl rfl rfl (gj_step (y_ld1 (reads_sl) Tryz.isAgg9 rfl (ht) rfl) rfl rfl rfl (gj_step (y_addS rfl rfl (by (try simp only [ByteArray.size_append]); have h1s : (⟨#[32]⟩ : ByteArray).size = 1 := rfl; have h2s : (⟨#[61]⟩ : ByteArray).size = 1 := rfl; have h3s : (⟨#[32, 40]⟩ : ByteArray).size = 2 := rfl; have h4s : (⟨#[32, 59]⟩ : ByteArray).size = 2 := rfl; have h5s : (⟨#[32, 41]⟩ : ByteArray).size = 2 := rfl; have h9 := htn t (List.mem_of_getElem? ht); omega)) rfl rfl rfl (gj_step (y_addS rfl rfl (by (try simp only [ByteArray.size_append]); have h1s : (⟨#[32]⟩ : ByteArray).size = 1 := rfl; have h2s : (⟨#[61]⟩ : ByteArray).size = 1 := rfl; have h3s : (⟨#[32, 40]⟩ : ByteArray).size = 2 := rfl; have h4s : (⟨#[32, 59]⟩ : ByteArray).size = 2 := rfl; have h5s : (⟨#[32, 41]⟩ : ByteArray).size = 2 := rfl; have h9 := htn t (List.mem_of_getElem? ht); omega)) rfl rfl rfl (gj_step (y_fa fa26_1 rfl) rfl rfl rfl (gj_step (y_load1 Tryz.isAgg23 rfl rfl) rfl rfl rfl (gj_step (y_move rfl) rfl rfl rfl (gj_step (y_ixR (reads_sl) Tryz.underlying23 Tryz.sizeOf9 rfl rfl (⟨by omega, by omega⟩)) rfl rfl rfl (gj_step (y_ld0 (reads_sl) Tryz.isAgg9 rfl (hs) rfl) rfl rfl rfl (gj_step (y_addS rfl rfl (by (try simp only [ByteArray.size_append]); have h1s : (⟨#[32]⟩ : ByteArray).size = 1 := rfl; have h2s : (⟨#[61]⟩ : ByteArray).size = 1 := rfl; have h3s : (⟨#[32, 40]⟩ : ByteArray).size = 2 := rfl; have h4s : (⟨#[32, 59]⟩ : ByteArray).size = 2 := rfl; have h5s : (⟨#[32, 41]⟩ : ByteArray).size = 2 := rfl; have h9 := htn t (List.mem_of_getElem? ht); have h8 := hss16 sv (List.mem_of_getElem? hs); omega)) rfl rfl rfl (gj_step (y_assign rfl) rfl rfl rfl (gj_nil ?_))))))))))))))))))
      refine ej_blk (ej_th ?_)
      refine cj_regionG (gj_step (y_move rfl) rfl rfl rfl (gj_step (y_add rfl rfl (by omega)) rfl rfl rfl (gj_step (y_assign rfl) rfl rfl rfl (gj_nil ?_))))
      exact ej_nx (k + 1, s ++ tBl ++ t.name ++ tEq ++ sv) (by simp only; omega) ⟨by first | omega | (simp only; omega), by rw [← hin]; simp only [ByteArray.append_assoc]⟩ ⟨rfl, rfl, rfl, rfl, rfl, rfl, trivial⟩
    · have h30b := h30
      try simp only [sxb] at h30
      rw [if_pos (not_f h30b)] at hin
      refine cj_skip (ej_blk (ej_th ?_))
      refine cj_regionG (gj_step (y_move rfl) rfl rfl rfl (gj_step (y_add rfl rfl (by omega)) rfl rfl rfl (gj_step (y_assign rfl) rfl rfl rfl (gj_nil ?_))))
      exact ej_nx (k + 1, s) (by simp only; omega) ⟨by first | omega | (simp only; omega), hin⟩ ⟨rfl, rfl, rfl, rfl, rfl, rfl, trivial⟩
  · have h22b := h22
    try simp only [sxb] at h22
    have hin2 : s ++ (bl (tokP (gramM l) true x.pl.parts) ++ ET) = TX := by
      rw [← hin, List.drop_of_length_le (show x.says.length ≤ k by omega), show saidTok (cc.traits.drop k) [] = [] by cases cc.traits.drop k <;> simp [saidTok], bl, nil_ba]
    refine cj_exit (ej_then_exit (ej_then_exit (ej_blk_hit (ej_th (cj_seq (cj_seq ?_))))))
    refine cj_regionG (gj_step (y_assign rfl) rfl rfl rfl (gj_nil ?_))
    refine ej_th (cj_block ?_)
    refine cj_lpic (X := Nat × ByteArray) [(0, _), (3, _), (4, _)] (fun ⟨j, s⟩ => j ≤ x.parts.length ∧ s ++ (bl (tokP (gramM l) (decide (j = 0)) (x.pl.parts.drop j)) ++ ET) = TX) (fun ⟨j, s⟩ => [(7, .string s), (9, .int .i64 j)]) (fun ⟨j, s⟩ => x.parts.length - j) (0, s) (⟨Nat.zero_le _, hin2⟩) ⟨rfl, rfl, rfl, rfl, rfl, trivial⟩ ?_
    rintro ⟨j, s⟩ ⟨hj, hin⟩
    dsimp only [List.cons_append, List.nil_append]
    have hss : s.size ≤ 10000 := by
      have h9 := congrArg ByteArray.size hin
      rw [ByteArray.size_append] at h9
      omega
    refine cj_seq (cj_seq ?_)
    refine cj_regionG (gj_step (y_move rfl) rfl rfl rfl (gj_step (y_fa fa26_2 rfl) rfl rfl rfl (gj_step (y_load1 Tryz.isAgg24 rfl rfl) rfl rfl rfl (gj_step (y_lenA Tryz.underlying24 rfl) rfl rfl rfl (gj_step (y_lss rfl rfl) rfl rfl rfl (gj_nil ?_))))))
    refine ej_th ?_
    refine cj_cond rfl (fun h51 => ?_) (fun h51 => ?_)
    · have h51b := h51
      try simp only [sxb] at h51
      obtain ⟨q, hq⟩ : ∃ q, x.parts[j]? = some q := ⟨_, List.getElem?_eq_getElem (by omega)⟩
      have hpq : x.pl.parts[j]? = some q.pl := by rw [pl_parts, List.getElem?_map, hq]; rfl
      rw [tokP_drop _ _ j q.pl hpq, bl_cons, bl_append, tok_bl] at hin
      have hqm : q.pl ∈ x.pl.parts := List.mem_of_getElem? hpq
      have hqo := ho.pt _ hqm
      have hqc : cntT q.pl ≤ 24 := by have h1 := cntL_mem _ _ hqm; have h2 := cntT_eq x.pl; omega
      refine cj_skip (ej_th (cj_seq (cj_block (cj_seq (cj_seq ?_)))))
      refine cj_regionG (gj_step (y_move rfl) rfl rfl rfl (gj_step (y_eql rfl rfl) rfl rfl rfl (gj_nil ?_)))
      refine ej_th ?_
      refine cj_cond rfl (fun h55 => ?_) (fun h55 => ?_)
      · have h55b := h55
        try simp only [sxb] at h55
        have hj0 : j = 0 := by simpa using h55b
        rw [if_pos hj0] at hin
        refine cj_regionG (gj_step (y_move rfl) rfl rfl rfl (gj_step (y_addS rfl rfl (by (try simp only [ByteArray.size_append]); have h1s : (⟨#[32]⟩ : ByteArray).size = 1 := rfl; have h2s : (⟨#[61]⟩ : ByteArray).size = 1 := rfl; have h3s : (⟨#[32, 40]⟩ : ByteArray).size = 2 := rfl; have h4s : (⟨#[32, 59]⟩ : ByteArray).size = 2 := rfl; have h5s : (⟨#[32, 41]⟩ : ByteArray).size = 2 := rfl; omega)) rfl rfl rfl (gj_step (y_assign rfl) rfl rfl rfl (gj_nil ?_))))
        refine ej_th ?_
        refine cj_regionG ?_
        refine gj_step (y_move rfl) rfl rfl rfl (gj_step (y_addS rfl rfl (by (try simp only [ByteArray.size_append]); have h1s : (⟨#[32]⟩ : ByteArray).size = 1 := rfl; have h2s : (⟨#[61]⟩ : ByteArray).size = 1 := rfl; have h3s : (⟨#[32, 40]⟩ : ByteArray).size = 2 := rfl; have h4s : (⟨#[32, 59]⟩ : ByteArray).size = 2 := rfl; have h5s : (⟨#[32, 41]⟩ : ByteArray).size = 2 := rfl; omega)) rfl rfl rfl (gj_step (y_move rfl) rfl rfl rfl (gj_step (y_fa fa26_2 rfl) rfl rfl rfl (gj_step (y_load1 Tryz.isAgg24 rfl rfl) rfl rfl rfl (gj_step (y_move rfl) rfl rfl rfl (gj_step (y_ixR (reads_sl) Tryz.underlying24 Tryz.sizeOf26 rfl rfl (⟨by omega, by omega⟩)) rfl rfl rfl (gj_step (y_ldW (reads_sl) Tryz.isAgg26 Tryz.sizeOf26 rfl (hq) (fun _ => rfl)) rfl rfl rfl (?_))))))))
        refine gj_step (y_call Tryz.call30 rfl (fun w hp => ih q (List.mem_of_getElem? hq) w hp.below)) rfl rfl rfl ?_
        refine gj_step (y_addS rfl rfl (by (try simp only [ByteArray.size_append]); have h1s : (⟨#[32]⟩ : ByteArray).size = 1 := rfl; have h2s : (⟨#[61]⟩ : ByteArray).size = 1 := rfl; have h3s : (⟨#[32, 40]⟩ : ByteArray).size = 2 := rfl; have h4s : (⟨#[32, 59]⟩ : ByteArray).size = 2 := rfl; have h5s : (⟨#[32, 41]⟩ : ByteArray).size = 2 := rfl; have hqz := txt_size hqo hqc; omega)) rfl rfl rfl (gj_step (y_assign rfl) rfl rfl rfl (?_))
        refine gj_nil ?_
        refine ej_blk (ej_th ?_)
        refine cj_regionG (gj_step (y_move rfl) rfl rfl rfl (gj_step (y_add rfl rfl (by omega)) rfl rfl rfl (gj_step (y_assign rfl) rfl rfl rfl (gj_nil ?_))))
        exact ej_nx (j + 1, s ++ ⟨#[32, 40]⟩ ++ tBl ++ txtT (gramM l) q.pl) (by simp only; omega) ⟨by first | omega | (simp only; omega), by rw [← hin, show (⟨#[32, 40]⟩ : ByteArray) = tBl ++ tOpen from rfl]; simp only [ByteArray.append_assoc]⟩ ⟨rfl, rfl, rfl, rfl, rfl, trivial⟩
      · have h55b := h55
        try simp only [sxb] at h55
        have hj0 : ¬ j = 0 := by simpa using h55b
        rw [if_neg hj0] at hin
        refine cj_regionG (gj_step (y_move rfl) rfl rfl rfl (gj_step (y_addS rfl rfl (by (try simp only [ByteArray.size_append]); have h1s : (⟨#[32]⟩ : ByteArray).size = 1 := rfl; have h2s : (⟨#[61]⟩ : ByteArray).size = 1 := rfl; have h3s : (⟨#[32, 40]⟩ : ByteArray).size = 2 := rfl; have h4s : (⟨#[32, 59]⟩ : ByteArray).size = 2 := rfl; have h5s : (⟨#[32, 41]⟩ : ByteArray).size = 2 := rfl; omega)) rfl rfl rfl (gj_step (y_assign rfl) rfl rfl rfl (gj_nil ?_))))
        refine ej_th ?_
        refine cj_regionG ?_
        refine gj_step (y_move rfl) rfl rfl rfl (gj_step (y_addS rfl rfl (by (try simp only [ByteArray.size_append]); have h1s : (⟨#[32]⟩ : ByteArray).size = 1 := rfl; have h2s : (⟨#[61]⟩ : ByteArray).size = 1 := rfl; have h3s : (⟨#[32, 40]⟩ : ByteArray).size = 2 := rfl; have h4s : (⟨#[32, 59]⟩ : ByteArray).size = 2 := rfl; have h5s : (⟨#[32, 41]⟩ : ByteArray).size = 2 := rfl; omega)) rfl rfl rfl (gj_step (y_move rfl) rfl rfl rfl (gj_step (y_fa fa26_2 rfl) rfl rfl rfl (gj_step (y_load1 Tryz.isAgg24 rfl rfl) rfl rfl rfl (gj_step (y_move rfl) rfl rfl rfl (gj_step (y_ixR (reads_sl) Tryz.underlying24 Tryz.sizeOf26 rfl rfl (⟨by omega, by omega⟩)) rfl rfl rfl (gj_step (y_ldW (reads_sl) Tryz.isAgg26 Tryz.sizeOf26 rfl (hq) (fun _ => rfl)) rfl rfl rfl (?_))))))))
        refine gj_step (y_call Tryz.call30 rfl (fun w hp => ih q (List.mem_of_getElem? hq) w hp.below)) rfl rfl rfl ?_
        refine gj_step (y_addS rfl rfl (by (try simp only [ByteArray.size_append]); have h1s : (⟨#[32]⟩ : ByteArray).size = 1 := rfl; have h2s : (⟨#[61]⟩ : ByteArray).size = 1 := rfl; have h3s : (⟨#[32, 40]⟩ : ByteArray).size = 2 := rfl; have h4s : (⟨#[32, 59]⟩ : ByteArray).size = 2 := rfl; have h5s : (⟨#[32, 41]⟩ : ByteArray).size = 2 := rfl; have hqz := txt_size hqo hqc; omega)) rfl rfl rfl (gj_step (y_assign rfl) rfl rfl rfl (?_))
        refine gj_nil ?_
        refine ej_blk (ej_th ?_)
        refine cj_regionG (gj_step (y_move rfl) rfl rfl rfl (gj_step (y_add rfl rfl (by omega)) rfl rfl rfl (gj_step (y_assign rfl) rfl rfl rfl (gj_nil ?_))))
        exact ej_nx (j + 1, s ++ ⟨#[32, 59]⟩ ++ tBl ++ txtT (gramM l) q.pl) (by simp only; omega) ⟨by first | omega | (simp only; omega), by rw [← hin, show (⟨#[32, 59]⟩ : ByteArray) = tBl ++ tSemi from rfl]; simp only [ByteArray.append_assoc]⟩ ⟨rfl, rfl, rfl, rfl, rfl, trivial⟩
    · have h51b := h51
      try simp only [sxb] at h51
      have hin3 : s ++ ET = TX := by
        rw [← hin, List.drop_of_length_le (show x.pl.parts.length ≤ j by rw [pl_parts, List.length_map]; omega), tokP, bl, nil_ba]
      refine cj_exit (ej_then_exit (ej_then_exit (ej_blk_hit (ej_th (cj_seq (cj_seq ?_))))))
      refine cj_regionG (gj_step (y_fa fa26_2 rfl) rfl rfl rfl (gj_step (y_load1 Tryz.isAgg24 rfl rfl) rfl rfl rfl (gj_step (y_lenA Tryz.underlying24 rfl) rfl rfl rfl (gj_step (y_gtr rfl rfl) rfl rfl rfl (gj_nil ?_)))))
      refine ej_th ?_
      refine cj_cond rfl (fun h73 => ?_) (fun h73 => ?_)
      · have h73b := h73
        try simp only [sxb] at h73
        rw [if_neg (by rw [pl_parts, List.length_map]; omega)] at hET
        refine cj_regionG (gj_step (y_move rfl) rfl rfl rfl (gj_step (y_addS rfl rfl (by (try simp only [ByteArray.size_append]); have h1s : (⟨#[32]⟩ : ByteArray).size = 1 := rfl; have h2s : (⟨#[61]⟩ : ByteArray).size = 1 := rfl; have h3s : (⟨#[32, 40]⟩ : ByteArray).size = 2 := rfl; have h4s : (⟨#[32, 59]⟩ : ByteArray).size = 2 := rfl; have h5s : (⟨#[32, 41]⟩ : ByteArray).size = 2 := rfl; omega)) rfl rfl rfl (gj_step (y_assign rfl) rfl rfl rfl (gj_nil ?_))))
        refine ej_th (cj_seq ?_)
        refine cj_regionG (gj_step (y_move rfl) rfl rfl rfl (gj_step (y_assign rfl) rfl rfl rfl (gj_nil ?_)))
        refine ej_th (cj_ret ?_)
        refine ej_ret1 rfl Tryz.results30 rfl (fun w' hp => ⟨?_, hp.below⟩)
        rw [← hin3, hET, show (⟨#[32, 41]⟩ : ByteArray) = tBl ++ tClose from rfl, bl, bl, ba_nil, ← ByteArray.append_assoc]
      · have h73b := h73
        try simp only [sxb] at h73
        rw [if_pos (by rw [pl_parts, List.length_map]; omega)] at hET
        refine cj_skip (ej_th (cj_seq ?_))
        refine cj_regionG (gj_step (y_move rfl) rfl rfl rfl (gj_step (y_assign rfl) rfl rfl rfl (gj_nil ?_)))
        refine ej_th (cj_ret ?_)
        refine ej_ret1 rfl Tryz.results30 rfl (fun w' hp => ⟨?_, hp.below⟩)
        rw [← hin3, hET, bl, ba_nil]

theorem k_rtext (l : List ClassV) (A : Option Addr) (c : Nat) {w0 : World} {x : ItemV} (hx : GoodI w0 x) : ∀ (w : World), Grow w0 w → gramOk l = true → Rd w 4 encCl A l → (∀ c ∈ l, GoodC w c) → OkT (gramM l) x.pl → cntT x.pl ≤ 24 → Calls Tryz.prog 30 #[.slice A l.length c, evI x] w (fun e w' => e = .returned (.string (txtT (gramM l) x.pl)) ∧ Grow w w') := by
  induction hx with
  | @mk x hs hp hn hm hr ih =>
    intro w hg hgo hl hgc ho hc
    refine k_rtext1 l A c x w hl hgc hgo ((GoodI.mk hs hp hn hm hr).mono hg) ho hc (fun p hpm w1 hg1 => ?_)
    have hpo : p.pl ∈ x.pl.parts := by rw [pl_parts]; exact List.mem_map.2 ⟨p, hpm, rfl⟩
    have hcp : cntT p.pl ≤ 24 := by have h1 := cntL_mem _ _ hpo; have h2 := cntT_eq x.pl; omega
    exact ih p hpm w1 (grow_trans hg hg1) hgo (hl.mono hg1) (fun q hq => (hgc q hq).mono hg1) (ho.pt _ hpo) hcp

end Go.Proofs.YtlfbghkcfmcnlaaGreatDoor
namespace Go.Proofs.YtlfbghkcfmcnlaaGreatDoor
open Go.Sx Go.RowKit Go.Shelf Go.Proofs
def lays146_ren : Go.Shelf.Ren := ⟨fun | 146 => 66 | 221 => 86 | 268 => 101 | 138 => 102 | 143 => 103 | 195 => 109 | 197 => 110 | 218 => 111 | 219 => 112 | 260 => 117 | 217 => 118 | 225 => 119 | 224 => 120 | 267 => 121 | 266 => 123 | 314 => 124 | n => n, fun | 9 => 9 | 31 => 23 | 3 => 3 | 4 => 4 | 0 => 0 | 105 => 163 | 21 => 21 | 5 => 5 | 46 => 171 | 119 => 172 | 139 => 175 | 138 => 174 | 146 => 177 | 51 => 176 | n => n, fun | 1 => 0 | 3 => 1 | 4 => 2 | n => n⟩
theorem lays146 : Go.Proofs.Lays.n146 Tryz.prog lays146_ren where
  mixed := by kernel_rfl
  f138 := Tryz.func102.trans (congrArg some (by kernel_rfl))
  f143 := Tryz.func103.trans (congrArg some (by kernel_rfl))
  f146 := Tryz.func66.trans (congrArg some (by kernel_rfl))
  f195 := Tryz.func109.trans (congrArg some (by kernel_rfl))
  f197 := Tryz.func110.trans (congrArg some (by kernel_rfl))
  f217 := Tryz.func118.trans (congrArg some (by kernel_rfl))
  f218 := Tryz.func111.trans (congrArg some (by kernel_rfl))
  f219 := Tryz.func112.trans (congrArg some (by kernel_rfl))
  f221 := Tryz.func86.trans (congrArg some (by kernel_rfl))
  f224 := Tryz.func120.trans (congrArg some (by kernel_rfl))
  f225 := Tryz.func119.trans (congrArg some (by kernel_rfl))
  f260 := Tryz.func117.trans (congrArg some (by kernel_rfl))
  f266 := Tryz.func123.trans (congrArg some (by kernel_rfl))
  f267 := Tryz.func121.trans (congrArg some (by kernel_rfl))
  f268 := Tryz.func101.trans (congrArg some (by kernel_rfl))
  f314 := Tryz.func124.trans (congrArg some (by kernel_rfl))
  t0 := Tryz.underlying0
  a0 := Tryz.isAgg0
  z0 := Tryz.sizeOf0
  v0 := Tryz.zeroValue0
  t3 := Tryz.underlying3
  a3 := Tryz.isAgg3
  z3 := Tryz.sizeOf3
  v3 := Tryz.zeroValue3
  t4 := Tryz.underlying4
  a4 := Tryz.isAgg4
  z4 := Tryz.sizeOf4
  v4 := Tryz.zeroValue4
  t5 := Tryz.underlying5
  a5 := Tryz.isAgg5
  z5 := Tryz.sizeOf5
  v5 := Tryz.zeroValue5
  t9 := Tryz.underlying9
  a9 := Tryz.isAgg9
  z9 := Tryz.sizeOf9
  v9 := Tryz.zeroValue9
  t21 := Tryz.underlying21
  a21 := Tryz.isAgg21
  z21 := Tryz.sizeOf21
  v21 := Tryz.zeroValue21
  t31 := Tryz.underlying23
  a31 := Tryz.isAgg23
  z31 := Tryz.sizeOf23
  v31 := Tryz.zeroValue23
  t46 := Tryz.underlying171
  a46 := Tryz.isAgg171
  z46 := Tryz.sizeOf171
  v46 := Tryz.zeroValue171
  t51 := Tryz.underlying176
  a51 := Tryz.isAgg176
  z51 := Tryz.sizeOf176
  v51 := Tryz.zeroValue176
  t105 := Tryz.underlying163
  a105 := Tryz.isAgg163
  z105 := Tryz.sizeOf163
  v105 := Tryz.zeroValue163
  t119 := Tryz.underlying172
  a119 := Tryz.isAgg172
  z119 := Tryz.sizeOf172
  t138 := Tryz.underlying174
  a138 := Tryz.isAgg174
  z138 := Tryz.sizeOf174
  v138 := Tryz.zeroValue174
  t139 := Tryz.underlying175
  a139 := Tryz.isAgg175
  z139 := Tryz.sizeOf175
  v139 := Tryz.zeroValue175
  t146 := Tryz.underlying177
  a146 := Tryz.isAgg177
  z146 := Tryz.sizeOf177
  v146 := Tryz.zeroValue177
  g1 := by kernel_rfl
  g3 := by kernel_rfl
  g4 := by kernel_rfl
def lays103_ren : Go.Shelf.Ren := ⟨fun | 103 => 68 | 210 => 87 | 206 => 104 | n => n, fun | 9 => 9 | 4 => 4 | 24 => 126 | 3 => 3 | n => n, fun n => n⟩
theorem lays103 : Go.Proofs.Lays.n103 Tryz.prog lays103_ren where
  mixed := by kernel_rfl
  f103 := Tryz.func68.trans (congrArg some (by kernel_rfl))
  f206 := Tryz.func104.trans (congrArg some (by kernel_rfl))
  f210 := Tryz.func87.trans (congrArg some (by kernel_rfl))
  t3 := Tryz.underlying3
  a3 := Tryz.isAgg3
  z3 := Tryz.sizeOf3
  v3 := Tryz.zeroValue3
  t4 := Tryz.underlying4
  a4 := Tryz.isAgg4
  z4 := Tryz.sizeOf4
  v4 := Tryz.zeroValue4
  t9 := Tryz.underlying9
  a9 := Tryz.isAgg9
  z9 := Tryz.sizeOf9
  v9 := Tryz.zeroValue9
  t24 := Tryz.underlying126
  a24 := Tryz.isAgg126
  z24 := Tryz.sizeOf126
  v24 := Tryz.zeroValue126

/-- strings.Split at blanks. -/
theorem split_call (s : ByteArray) (m : Int) (w : World) (hs : s.size < 4294967281) (hm : w.cell? ⟨0, 0, none⟩ = some (.int .i64 m)) :
    Calls Tryz.prog 66 #[.string s, .string tBl] w (fun e w' => ∃ z : Nat, e = .returned (.slice (some ⟨z, 0, none⟩) (splitT s).length (splitT s).length) ∧ Giv [] w w' [ownB z (cellsB 9 ((splitT s).flatMap enStr))]) := by
  have hl := Lib.splitB_all tBl (by decide) 0 _ s rfl
  have h := Any.strings_Split lays146 (by kernel_rfl) s tBl m w hs hm (by decide)
  refine h.mono fun e w' hx => ?_
  obtain ⟨h1, h2⟩ := hx
  refine ⟨w.heap.size, by rw [h1, show (splitT s).length = Lib.countB s tBl + 1 from hl], ?_⟩
  rw [h2]
  refine ⟨⟨rfl, rfl, rfl, ?_, fun b hb _ => ?_⟩, ?_, List.pairwise_singleton ..⟩
  · simp
  · simp only [World.alloc]
    rw [Array.getElem?_push, if_neg (by omega)]
  · intro f hf
    rw [List.mem_singleton.1 hf]
    refine ⟨?_, fun b hb => ?_⟩
    · show (w.alloc _).heap[w.heap.size]? = _
      simp only [World.alloc]
      rw [Array.getElem?_push, if_pos rfl]
      show some (Obj.cells (List.map Value.string (splitT s)).toArray 9 (0, 0)) = some (Obj.cells ((splitT s).flatMap enStr).toArray 9 (0, 0))
      rw [show (splitT s).flatMap enStr = (splitT s).map Value.string by
        generalize splitT s = l
        induction l with
        | nil => rfl
        | cons x l ih => rw [List.flatMap_cons, ih]; rfl]
    · have hb : b = w.heap.size := hb
      subst hb
      exact ⟨by simp, .inr (Nat.le_refl _)⟩
theorem cutp_call (s p : ByteArray) (w : World) : Calls Tryz.prog 68 #[.string s, .string p] w (fun e w' => e = .returned (.tuple #[.string ⟨(if (by_ p).isPrefixOf (by_ s) = true then (by_ s).drop (by_ p).length else by_ s).toArray⟩, .bool ((by_ p).isPrefixOf (by_ s))]) ∧ Grow w w') :=
  (Any.strings_CutPrefix lays103 s p w).mono fun e w' hx => ⟨hx.1, by rw [hx.2]; exact ⟨rfl, rfl, rfl, Nat.le_refl _, fun _ _ => rfl⟩⟩
/-- The same; what it is cut into is only read from then on. -/
theorem split_sh (s : ByteArray) (m : Int) (w : World) (hs : s.size ≤ 65536) (hm : w.cell? ⟨0, 0, none⟩ = some (.int .i64 m)) :
    Calls Tryz.prog 66 #[.string s, .string tBl] w (fun e w' => ∃ z : Nat, e = .returned (.slice (some ⟨z, 0, none⟩) (splitT s).length (splitT s).length) ∧ Grow w w' ∧ (∀ g ∈ ([] : List Fact), g.P w' ∧ ∀ b, g.fp b → w.heap.size ≤ b ∧ b < w'.heap.size) ∧ ([] : List Fact).Pairwise (fun f g => ∀ b, f.fp b → ¬ g.fp b) ∧ (∀ g ∈ [litS z 1 enStr (splitT s)], g.P w' ∧ ∀ b, g.fp b → w.heap.size ≤ b ∧ b < w'.heap.size ∧ ∀ o ∈ ([] : List Fact), ¬ o.fp b)) := by
  refine (split_call s m w (by omega) hm).mono fun e w' ⟨z, he, hg⟩ => ⟨z, he, ⟨hg.mu.os, hg.mu.tape, hg.mu.output, hg.mu.size, fun b hb => hg.mu.same b hb (fun f hf => by cases hf)⟩, by simp, by simp, fun g hg' => ?_⟩
  rw [List.mem_singleton.1 hg']
  have h1 := hg.has (ownB z (cellsB 9 ((splitT s).flatMap enStr))) (List.mem_cons_self ..)
  have h2 := (split_sz s).1
  refine ⟨⟨by unfold maxLen; omega, fun _ => ⟨_, rfl, rfl, fun i x j u hx hu => lit_cells (e := 9) (enc := enStr) (cs := (splitT s).flatMap enStr) h1.1 _ (fun _ => rfl) rfl i x j u hx hu⟩⟩, fun b hb => ?_⟩
  obtain ⟨h3, h4⟩ := h1.2 b hb
  rcases h4 with ⟨f, hf, _⟩ | h4
  · cases hf
  · exact ⟨h4, h3, by simp⟩
end Go.Proofs.YtlfbghkcfmcnlaaGreatDoor
namespace Go.Proofs.YtlfbghkcfmcnlaaGreatDoor
open Go.Sx Go.RowKit
set_option maxRecDepth 20000
abbrev chW : List PanicEntry := [{ v := .iface 122 (.agg #[]), recovered := false }]

theorem k_next (b m bs k : Nat) (T : List ByteArray) (w : World) (hcell : (ownB b (cellsB 81 [.map (some m), rstV bs T.length k])).P w) (hT : Rd w 1 enStr (some ⟨bs, 0, none⟩) T) (hk : k ≤ T.length) : Calls Tryz.prog 69 #[.pointer (some ⟨b, 0, none⟩)] w (fun e w' => e = .returned (.string ((T.drop k).headD ⟨#[]⟩)) ∧ Grow w w') := by
  refine enter_pure (args := [.pointer (some ⟨b, 0, none⟩)]) [ownB b (cellsB 81 [.map (some m), rstV bs T.length k]), sl (fun b => b < w.heap.size) 1 enStr (some ⟨bs, 0, none⟩) T] Tryz.func69 rfl (by rw [Tryz.ntmps69]; simp) (fun g hg => by
    simp only [List.mem_cons, List.mem_nil_iff, or_false] at hg
    rcases hg with rfl | rfl
    · exact ⟨hcell, fun i hi => by have : i = b := hi; subst this; exact (Array.getElem?_eq_some_iff.1 hcell).1⟩
    · exact ⟨hT, fun _ h => h⟩) ?_
  refine cj_seq ?_
  refine cj_regionG (gj_step (y_assign rfl) rfl rfl rfl (gj_nil ?_))
  refine ej_th (cj_seq (cj_seq ?_))
  refine cj_regionG (gj_step (y_move rfl) rfl rfl rfl (gj_step (y_nil rfl) rfl rfl rfl (gj_step (y_fa fa81_1 rfl) rfl rfl rfl (gj_step (y_loadS1 Tryz.isAgg23 rfl rfl) rfl rfl rfl (gj_step (y_lenA Tryz.underlying23 rfl) rfl rfl rfl (gj_step (y_eql rfl rfl) rfl rfl rfl (gj_nil ?_)))))))
  refine ej_th ?_
  refine cj_cond rfl (fun h8 => ?_) (fun h8 => ?_)
  · have h8b := h8
    try simp only [sxb] at h8
    have hke := head_nil (T := T) (k := k) (by omega)
    refine cj_seq ?_
    refine cj_regionG (gj_step (y_assign rfl) rfl rfl rfl (gj_nil ?_))
    refine ej_th (cj_ret (ej_then_ret ?_))
    refine ej_ret1 rfl Tryz.results69 rfl (fun w' hp => ⟨?_, hp.below⟩)
    rw [hke]; rfl
  · have h8b := h8
    try simp only [sxb] at h8
    have hkl : k < T.length := by omega
    obtain ⟨s, hs⟩ : ∃ s, T[k]? = some s := ⟨_, List.getElem?_eq_getElem hkl⟩
    refine cj_skip (ej_th (cj_seq ?_))
    refine cj_regionG (gj_step (y_move rfl) rfl rfl rfl (gj_step (y_nil rfl) rfl rfl rfl (gj_step (y_fa fa81_1 rfl) rfl rfl rfl (gj_step (y_loadS1 Tryz.isAgg23 rfl rfl) rfl rfl rfl (gj_step (y_ixT hkl Tryz.underlying23 Tryz.sizeOf9 rfl rfl) rfl rfl rfl (gj_step (y_ld0 reads_sl Tryz.isAgg9 rfl hs rfl) rfl rfl rfl (gj_step (y_assign rfl) rfl rfl rfl (gj_nil ?_))))))))
    refine ej_th (cj_ret ?_)
    refine ej_ret1 rfl Tryz.results69 rfl (fun w' hp => ⟨?_, hp.below⟩)
    rw [(head_drop hs).1]

theorem k_take (b m bs k : Nat) (T : List ByteArray) (fpT : Nat → Prop) (w : World) (hk : k ≤ T.length) (hO : ∀ f ∈ [ownB b (cellsB 81 [.map (some m), rstV bs T.length k])], f.P w ∧ ∀ b, f.fp b → b < w.heap.size) (hap : [ownB b (cellsB 81 [.map (some m), rstV bs T.length k])].Pairwise (fun f g => ∀ b, f.fp b → ¬ g.fp b)) (hS : ∀ f ∈ [sl fpT 1 enStr (some ⟨bs, 0, none⟩) T], f.P w ∧ ∀ i, f.fp i → i < w.heap.size ∧ ∀ o ∈ [ownB b (cellsB 81 [.map (some m), rstV bs T.length k])], ¬ o.fp i) : Calls Tryz.prog 67 #[.pointer (some ⟨b, 0, none⟩)] w (fun e w' => (∃ z : ByteArray, T[k]? = some z ∧ e = .returned (.string z) ∧ Giv [ownB b (cellsB 81 [.map (some m), rstV bs T.length k])] w w' [ownB b (cellsB 81 [.map (some m), rstV bs T.length (k + 1)])]) ∨ (∃ _ : Unit, T.length ≤ k ∧ e = .panicked chW ∧ Giv [ownB b (cellsB 81 [.map (some m), rstV bs T.length k])] w w' [ownB b (cellsB 81 [.map (some m), rstV bs T.length k])])) := by
  refine enterO (args := [.pointer (some ⟨b, 0, none⟩)]) [ownB b (cellsB 81 [.map (some m), rstV bs T.length k])] [sl fpT 1 enStr (some ⟨bs, 0, none⟩) T] Tryz.func67 rfl (by rw [Tryz.ntmps67]; simp) hO hap hS ?_
  refine cj_seq ?_
  refine cj_regionG (gj_step (y_assign rfl) rfl rfl rfl (gj_nil ?_))
  refine ej_th (cj_seq ?_)
  refine cj_regionG ?_
  refine gj_step (y_move rfl) rfl rfl rfl (?_)
  refine gj_step (y_call Tryz.call69 rfl (fun w hp => k_next b m bs k T w hp.own1 hp.rd hk)) rfl rfl rfl ?_
  refine gj_step (y_assign rfl) rfl rfl rfl (?_)
  refine gj_nil ?_
  refine ej_th (cj_seq (cj_seq ?_))
  refine cj_regionG (gj_step (y_move rfl) rfl rfl rfl (gj_step (y_nil rfl) rfl rfl rfl (gj_step (y_fa fa81_1 rfl) rfl rfl rfl (gj_step (y_load1 Tryz.isAgg23 rfl rfl) rfl rfl rfl (gj_step (y_lenA Tryz.underlying23 rfl) rfl rfl rfl (gj_step (y_eql rfl rfl) rfl rfl rfl (gj_nil ?_)))))))
  refine ej_th ?_
  refine cj_cond rfl (fun h11 => ?_) (fun h11 => ?_)
  · have h11b := h11
    try simp only [sxb] at h11
    refine cj_region ?_
    refine oj_step (y_build st122 rfl rfl) rfl rfl rfl ?_
    refine oj_step (y_iface rfl (by kernel_rfl)) rfl rfl rfl ?_
    refine oj_panic rfl ?_
    repeat (first | with_reducible refine ej_then_pan ?_ | with_reducible refine ej_blk_pan ?_ | with_reducible refine ej_noGoto_pan ?_ | with_reducible refine ej_np_pan ?_)
    exact ej_pan rfl (fun w' hp => .inr ⟨(), by omega, rfl, hp.givT _⟩)
  · have h11b := h11
    try simp only [sxb] at h11
    have hkl : k < T.length := by omega
    obtain ⟨s, hs⟩ : ∃ s, T[k]? = some s := ⟨_, List.getElem?_eq_getElem hkl⟩
    rw [(head_drop hs).1]
    refine cj_skip (ej_th (cj_seq (cj_region ?_)))
    refine oj_step (y_move rfl) rfl rfl rfl ?_
    refine oj_step (y_move rfl) rfl rfl rfl ?_
    refine oj_step (y_nil rfl) rfl rfl rfl ?_
    refine oj_step (y_fa fa81_1 rfl) rfl rfl rfl ?_
    refine oj_step (y_load1 Tryz.isAgg23 rfl rfl) rfl rfl rfl ?_
    refine oj_step (y_sliceT hkl Tryz.underlying23 Tryz.sizeOf9 rfl rfl) rfl rfl rfl ?_
    refine oj_step (y_nil rfl) rfl rfl rfl ?_
    refine oj_step (y_fa fa81_1 rfl) rfl rfl rfl ?_
    refine oj_store rfl rfl rfl rfl Tryz.sizeOf23 rfl ?_
    refine oj_nil ?_
    refine ej_th (cj_seq ?_)
    refine cj_regionG (gj_step (y_move rfl) rfl rfl rfl (gj_step (y_assign rfl) rfl rfl rfl (gj_nil ?_)))
    refine ej_th (cj_ret ?_)
    exact ej_ret1 rfl Tryz.results67 rfl (fun w' hp => .inl ⟨s, hs, rfl, hp.givT _⟩)

end Go.Proofs.YtlfbghkcfmcnlaaGreatDoor
