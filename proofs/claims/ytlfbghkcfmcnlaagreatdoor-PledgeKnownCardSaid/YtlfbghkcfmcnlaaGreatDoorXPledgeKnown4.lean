/- Texts of ours, joined: 1 of them. Conditions: none. -/
import Derived.Test.YtlfbghkcfmcnlaaGreatDoorXPledgeKnown3
namespace Go.Proofs.YtlfbghkcfmcnlaaGreatDoor
open Go.Sx Go.RowKit
set_option maxRecDepth 20000
theorem kz_n1 (A B : Option Addr) (b c : Nat) (w : World) (hm : Rd w 2 encMe A mEx) (hl : Rd w 1 encLs B [⟨at0 b, 2, [100, -1]⟩, ⟨at0 c, 2, [105, -1]⟩]) (hgl : ∀ r ∈ ([⟨at0 b, 2, [100, -1]⟩, ⟨at0 c, 2, [105, -1]⟩] : List ListV), GoodL w r) : Calls Tryz.prog 20 #[.slice A 2 2, .slice B 2 2] w (fun e w' => ∃ A c, e = .returned (.tuple #[.slice A (([] : List Span)).length c, .int .i64 15]) ∧ Grow w w' ∧ Res w w' 2 encSp A (([] : List Span))) := by
  have h := k_Narrow mEx A 2 [⟨at0 b, 2, [100, -1]⟩, ⟨at0 c, 2, [105, -1]⟩] B 2 w hm hl hgl
  rw [(kn1 b c).1, (kn1 b c).2] at h
  exact h
theorem kz_n2 (A B : Option Addr) (b : Nat) (w : World) (hm : Rd w 2 encMe A mEx) (hl : Rd w 1 encLs B [⟨at0 b, 1, [1]⟩]) (hgl : ∀ r ∈ ([⟨at0 b, 1, [1]⟩] : List ListV), GoodL w r) : Calls Tryz.prog 20 #[.slice A 2 2, .slice B 1 1] w (fun e w' => ∃ A c, e = .returned (.tuple #[.slice A (([] : List Span)).length c, .int .i64 13]) ∧ Grow w w' ∧ Res w w' 2 encSp A (([] : List Span))) := by
  have h := k_Narrow mEx A 2 [⟨at0 b, 1, [1]⟩] B 1 w hm hl hgl
  rw [(kn2 b).1, (kn2 b).2] at h
  exact h
theorem kz_n3 (A B : Option Addr)  (w : World) (hm : Rd w 2 encMe A mEx) (hl : Rd w 1 encLs B l17) (hgl : ∀ r ∈ l17, GoodL w r) : Calls Tryz.prog 20 #[.slice A 2 2, .slice B 17 17] w (fun e w' => ∃ A c, e = .returned (.tuple #[.slice A (([] : List Span)).length c, .int .i64 3]) ∧ Grow w w' ∧ Res w w' 2 encSp A (([] : List Span))) := by
  have h := k_Narrow mEx A 2 l17 B 17 w hm hl hgl
  rw [kn3.1, kn3.2] at h
  exact h
theorem kz_a1 (A At B : Option Addr)  (w : World) (hm : Rd w 2 encMe A mEx)(ht : Rd w 1 enInt At tEx) (hb : Rd w 1 enInt B [105, 1000]) : Calls Tryz.prog 21 #[.slice A 2 2, .slice At 2 2, .slice B 2 2] w (fun e w' => e = .returned (.tuple #[.bool false, .int .i64 0]) ∧ Grow w w') := by
  have h := k_Agree mEx A 2 tEx [105, 1000] At B 2 2 w hm ht hb
  rw [kn4.1, kn4.2] at h
  exact h
theorem kz_a2 (w : World) : Calls Tryz.prog 21 #[.slice none 0 0, .slice none 0 0, .slice none 0 0] w (fun e w' => e = .returned (.tuple #[.bool false, .int .i64 12]) ∧ Grow w w') := by
  have h := k_Agree [] none 0 [] [] none none 0 0 w Rd.nil Rd.nil Rd.nil
  rw [kn5.1, kn5.2] at h
  exact h
theorem kz_f1 (A At : Option Addr)  (w : World) (hm : Rd w 2 encMe A mEx)(ht : Rd w 1 enInt At tEx) : Calls Tryz.prog 22 #[.slice A 2 2, .slice At 2 2, .agg #[.slice none 0 0]] w (fun e w' => ∃ A c, e = .returned (.tuple #[.slice A (([] : List Int)).length c, .int .i64 14]) ∧ Grow w w' ∧ Res w w' 1 enInt A (([] : List Int))) := by
  have h := k_Finds mEx A 2 tEx At 2 fk0 w hm ht Rd.nil
  rw [kn6.1, kn6.2] at h
  exact h
theorem kz_f2 (A At : Option Addr) (b : Nat) (w : World) (hm : Rd w 2 encMe A mEx)(ht : Rd w 1 enInt At tEx) (hr : Rd w 2 encSp (at0 b) [⟨106, 107⟩, ⟨984, 984⟩]) : Calls Tryz.prog 22 #[.slice A 2 2, .slice At 2 2, .agg #[.slice (some ⟨b, 0, none⟩) 2 2]] w (fun e w' => ∃ A c, e = .returned (.tuple #[.slice A (([1] : List Int)).length c, .int .i64 0]) ∧ Grow w w' ∧ Res w w' 1 enInt A (([1] : List Int))) := by
  have h := k_Finds mEx A 2 tEx At 2 (fkE b) w hm ht hr
  rw [(kn14 b).1, (kn14 b).2] at h
  exact h
theorem kz_s1 (A At Af B : Option Addr) (b c : Nat) (w : World) (hm : Rd w 2 encMe A mEx)(ht : Rd w 1 enInt At tEx)(hf : Rd w 1 encFk Af (fEx b c)) (hgf : ∀ f ∈ fEx b c, GoodK w f) (hs : Rd w 1 enInt B [1, 0]) : Calls Tryz.prog 23 #[.slice A 2 2, .slice At 2 2, .slice Af 2 2, .slice B 2 2] w (fun e w' => e = .returned (.tuple #[.bool false, .int .i64 7]) ∧ Grow w w') := by
  have h := k_Shows mEx A 2 tEx At 2 (fEx b c) Af 2 [1, 0] B 2 w hm ht hf hgf hs
  rw [(kn7 b c).1, (kn7 b c).2] at h
  exact h
theorem kz_s2 (A At Af B : Option Addr) (b c : Nat) (w : World) (hm : Rd w 2 encMe A mEx)(ht : Rd w 1 enInt At tEx)(hf : Rd w 1 encFk Af (fEx b c)) (hgf : ∀ f ∈ fEx b c, GoodK w f) (hs : Rd w 1 enInt B [1]) : Calls Tryz.prog 23 #[.slice A 2 2, .slice At 2 2, .slice Af 2 2, .slice B 1 1] w (fun e w' => e = .returned (.tuple #[.bool false, .int .i64 0]) ∧ Grow w w') := by
  have h := k_Shows mEx A 2 tEx At 2 (fEx b c) Af 2 [1] B 1 w hm ht hf hgf hs
  rw [(kn8 b c).1, (kn8 b c).2] at h
  exact h
theorem kz_l1 (A At Af : Option Addr) (b c : Nat) (w : World) (hm : Rd w 2 encMe A mEx)(ht : Rd w 1 enInt At tEx)(hf : Rd w 1 encFk Af (fEx b c)) (hgf : ∀ f ∈ fEx b c, GoodK w f) : Calls Tryz.prog 24 #[.slice A 2 2, .slice At 2 2, .slice Af 1 2] w (fun e w' => ∃ A c, e = .returned (.tuple #[.slice A (([0] : List Int)).length c, .int .i64 1, .int .i64 0]) ∧ Grow w w' ∧ Res w w' 1 enInt A (([0] : List Int))) := by
  have h := k_Least mEx A 2 tEx At 2 ((fEx b c).take 1) Af 2 w hm ht (Rd.takeL hf 1) (fun f h => hgf f (List.mem_of_mem_take h))
  rw [(kn9 b c).1, (kn9 b c).2.1, (kn9 b c).2.2] at h
  exact h
theorem kz_l2 (A At : Option Addr)  (w : World) (hm : Rd w 2 encMe A mEx)(ht : Rd w 1 enInt At tEx) : Calls Tryz.prog 24 #[.slice A 2 2, .slice At 2 2, .slice none 0 0] w (fun e w' => ∃ A c, e = .returned (.tuple #[.slice A (([] : List Int)).length c, .int .i64 0, .int .i64 0]) ∧ Grow w w' ∧ Res w w' 1 enInt A (([] : List Int))) := by
  have h := k_Least mEx A 2 tEx At 2 [] none 0 w hm ht Rd.nil (fun f h => by cases h)
  rw [kn10.1, kn10.2.1, kn10.2.2] at h
  exact h
theorem kz_l3 (A At Af : Option Addr) (b c : Nat) (w : World) (hm : Rd w 2 encMe A mEx)(ht : Rd w 1 enInt At [100, -1])(hf : Rd w 1 encFk Af (fEx b c)) (hgf : ∀ f ∈ fEx b c, GoodK w f) : Calls Tryz.prog 24 #[.slice A 2 2, .slice At 2 2, .slice Af 2 2] w (fun e w' => ∃ A c, e = .returned (.tuple #[.slice A (([] : List Int)).length c, .int .i64 0, .int .i64 4]) ∧ Grow w w' ∧ Res w w' 1 enInt A (([] : List Int))) := by
  have h := k_Least mEx A 2 [100, -1] At 2 (fEx b c) Af 2 w hm ht hf hgf
  rw [(kn11 b c).1, (kn11 b c).2.1, (kn11 b c).2.2] at h
  exact h
theorem kz_b1 (A At Af B : Option Addr) (b c : Nat) (w : World) (hm : Rd w 2 encMe A mEx)(ht : Rd w 1 enInt At tEx)(hf : Rd w 1 encFk Af (fEx b c)) (hgf : ∀ f ∈ fEx b c, GoodK w f) (hb : Rd w 1 enInt B [2, 4]) : Calls Tryz.prog 25 #[.slice A 2 2, .slice At 2 2, .slice Af 2 2, .slice B 2 2] w (fun e w' => e = .returned (.tuple #[.int .i64 0, .int .i64 16]) ∧ Grow w w') := by
  have h := k_Bound mEx A 2 tEx At 2 (fEx b c) Af 2 [2, 4] B 2 w hm ht hf hgf hb
  rw [(kn12 b c).1, (kn12 b c).2] at h
  exact h
theorem kz_b2 (A At Af B : Option Addr) (b c : Nat) (w : World) (hm : Rd w 2 encMe A mEx)(ht : Rd w 1 enInt At tEx)(hf : Rd w 1 encFk Af (fEx b c)) (hgf : ∀ f ∈ fEx b c, GoodK w f) (hb : Rd w 1 enInt B [1]) : Calls Tryz.prog 25 #[.slice A 2 2, .slice At 2 2, .slice Af 2 2, .slice B 1 1] w (fun e w' => e = .returned (.tuple #[.int .i64 0, .int .i64 16]) ∧ Grow w w') := by
  have h := k_Bound mEx A 2 tEx At 2 (fEx b c) Af 2 [1] B 1 w hm ht hf hgf hb
  rw [(kn13 b c).1, (kn13 b c).2] at h
  exact h
theorem kz_x1 (p : Nat) (Ap : Option Addr) (w : World) (hl : Rd w 4 encCl Ap (bxG p)) (hgc : ∀ q ∈ bxG p, GoodC w q) (c d : Nat) (hx : GoodI w (bxV d [bxV c [bx0]])) : Calls Tryz.prog 13 #[.slice Ap 1 1, .agg #[.string sBox, .slice none 0 0, .slice (some ⟨d, 0, none⟩) 1 1]] w (fun e w' => e = .returned (.int .i64 0) ∧ Grow w w') := by
  have h := k_Check (bxG p) Ap 1 (bxV d [bxV c [bx0]]) w hl hgc hx
  rw [bxE1 p c d] at h
  exact h
theorem kz_x2 (p : Nat) (Ap : Option Addr) (w : World) (hl : Rd w 4 encCl Ap (bxG p)) (hgc : ∀ q ∈ bxG p, GoodC w q) (c d e : Nat) (hx : GoodI w (bxV e [bxV d [bxV c [bx0]]])) : Calls Tryz.prog 13 #[.slice Ap 1 1, .agg #[.string sBox, .slice none 0 0, .slice (some ⟨e, 0, none⟩) 1 1]] w (fun e w' => e = .returned (.int .i64 11) ∧ Grow w w') := by
  have h := k_Check (bxG p) Ap 1 (bxV e [bxV d [bxV c [bx0]]]) w hl hgc hx
  rw [bxE2 p c d e] at h
  exact h
theorem kz_x3 (p : Nat) (Ap : Option Addr) (w : World) (hl : Rd w 4 encCl Ap (bxG p)) (hgc : ∀ q ∈ bxG p, GoodC w q) (f c d : Nat) (hx : GoodI w (bxV d [bx4 f, bx4 f, bx4 f, bx4 f, bxV c [bx0, bx0]])) : Calls Tryz.prog 13 #[.slice Ap 1 1, .agg #[.string sBox, .slice none 0 0, .slice (some ⟨d, 0, none⟩) 5 5]] w (fun e w' => e = .returned (.int .i64 0) ∧ Grow w w') := by
  have h := k_Check (bxG p) Ap 1 (bxV d [bx4 f, bx4 f, bx4 f, bx4 f, bxV c [bx0, bx0]]) w hl hgc hx
  rw [bxE3 p f c d] at h
  exact h
theorem kz_x4 (p : Nat) (Ap : Option Addr) (w : World) (hl : Rd w 4 encCl Ap (bxG p)) (hgc : ∀ q ∈ bxG p, GoodC w q) (f c d : Nat) (hx : GoodI w (bxV d [bx4 f, bx4 f, bx4 f, bx4 f, bxV c [bx0, bx0, bx0]])) : Calls Tryz.prog 13 #[.slice Ap 1 1, .agg #[.string sBox, .slice none 0 0, .slice (some ⟨d, 0, none⟩) 5 5]] w (fun e w' => e = .returned (.int .i64 11) ∧ Grow w w') := by
  have h := k_Check (bxG p) Ap 1 (bxV d [bx4 f, bx4 f, bx4 f, bx4 f, bxV c [bx0, bx0, bx0]]) w hl hgc hx
  rw [bxE4 p f c d] at h
  exact h

theorem k_box (A : Option Addr) (n c : Nat) (w : World)  : Calls Tryz.prog 18 #[.slice A n c] w (fun e w' => e = .returned (.agg #[.string sBox, .slice none 0 0, .slice A n c]) ∧ Grow w w') := by
  refine enter_pure (args := [.slice A n c]) [] Tryz.func18 rfl (by rw [Tryz.ntmps18]; simp) (by simp) ?_
  refine cj_seq (cj_region ?_)
  refine oj_alloc Tryz.zeroValue26 rfl rfl (fun b2 => ?_)
  refine oj_nil ?_
  refine ej_th (cj_seq (cj_region ?_))
  refine oj_step (y_move rfl) rfl rfl rfl ?_
  refine oj_step (y_build (cs := [.string ⟨#[98, 111, 120]⟩, .slice none 0 0, .slice A n c]) st26 rfl (by kernel_rfl)) rfl rfl rfl ?_
  refine oj_store rfl rfl rfl rfl Tryz.sizeOf26 rfl ?_
  refine oj_nil ?_
  refine ej_th (cj_ret ?_)
  exact ej_retC1 rfl Tryz.results18 rfl (y_loadN Tryz.isAgg26 Tryz.sizeOf26 rfl) (fun w' hp => ⟨rfl, hp.below⟩)

set_option maxHeartbeats 32000000 in
theorem k_PledgeKnown (mx : Int) (w : World) (hm0 : Gl w 0 [.int .i64 mx]) : Calls Tryz.prog 5 #[] w (fun e w' => e = .returned (.bool true) ∧ Grow w w') := by
  refine enter_pure (args := []) [gl 0 [.int .i64 mx]] Tryz.func5 rfl (by rw [Tryz.ntmps5]; simp) (fun g hg => by simp at hg; subst hg; exact ⟨hm0.1, fun i hi => by have hi : i = 0 := hi; subst hi; exact hm0.2⟩) ?_
  refine cj_seq ?_
  refine cj_regionG (gj_step (y_assign rfl) rfl rfl rfl (gj_nil ?_))
  refine ej_th (cj_seq (cj_region ?_))
  refine oj_step (y_build st37 rfl rfl) rfl rfl rfl ?_
  refine oj_buildSlice (cs := [.string ⟨#[]⟩, .slice none 0 0, .slice none 0 0, .int .i64 0]) [.string ⟨#[]⟩, .slice none 0 0, .slice none 0 0, .int .i64 0] Tryz.underlying22 Tryz.sizeOf37 Tryz.zeroValue37 rfl rfl (by kernel_rfl) (by kernel_rfl) rfl (fun b38 => ?_)
  refine oj_step (y_build (cs := [.string ⟨#[97]⟩, .slice none 0 0, .slice none 0 0, .int .i64 0]) st37 rfl (by kernel_rfl)) rfl rfl rfl ?_
  refine oj_step (y_build (cs := [.string ⟨#[97]⟩, .slice none 0 0, .slice none 0 0, .int .i64 0]) st37 rfl (by kernel_rfl)) rfl rfl rfl ?_
  refine oj_buildSlice (cs := [.string ⟨#[97]⟩, .slice none 0 0, .slice none 0 0, .int .i64 0, .string ⟨#[97]⟩, .slice none 0 0, .slice none 0 0, .int .i64 0]) [.string ⟨#[]⟩, .slice none 0 0, .slice none 0 0, .int .i64 0, .string ⟨#[]⟩, .slice none 0 0, .slice none 0 0, .int .i64 0] Tryz.underlying22 Tryz.sizeOf37 Tryz.zeroValue37 rfl rfl (by kernel_rfl) (by kernel_rfl) rfl (fun b41 => ?_)
  refine oj_step (y_build (cs := [.string ⟨#[97]⟩, .slice none 0 0, .slice none 0 0, .int .i64 1]) st37 rfl (by kernel_rfl)) rfl rfl rfl ?_
  refine oj_buildSlice (cs := [.string ⟨#[97]⟩, .slice none 0 0, .slice none 0 0, .int .i64 1]) [.string ⟨#[]⟩, .slice none 0 0, .slice none 0 0, .int .i64 0] Tryz.underlying22 Tryz.sizeOf37 Tryz.zeroValue37 rfl rfl (by kernel_rfl) (by kernel_rfl) rfl (fun b43 => ?_)
  refine oj_buildSlice (cs := [.string ⟨#[98]⟩]) [.string ⟨#[]⟩] Tryz.underlying23 Tryz.sizeOf9 Tryz.zeroValue9 rfl rfl (by kernel_rfl) (by kernel_rfl) rfl (fun b44 => ?_)
  refine oj_step (y_build (cs := [.string ⟨#[97]⟩, .slice none 0 0, .slice (some ⟨b44, 0, none⟩) 1 1, .int .i64 0]) st37 rfl (by kernel_rfl)) rfl rfl rfl ?_
  refine oj_buildSlice (cs := [.string ⟨#[97]⟩, .slice none 0 0, .slice (some ⟨b44, 0, none⟩) 1 1, .int .i64 0]) [.string ⟨#[]⟩, .slice none 0 0, .slice none 0 0, .int .i64 0] Tryz.underlying22 Tryz.sizeOf37 Tryz.zeroValue37 rfl rfl (by kernel_rfl) (by kernel_rfl) rfl (fun b46 => ?_)
  refine oj_step (y_build (cs := [.string ⟨#[116]⟩, .slice none 0 0, .bool false]) st39 rfl (by kernel_rfl)) rfl rfl rfl ?_
  refine oj_buildSlice (cs := [.string ⟨#[116]⟩, .slice none 0 0, .bool false]) [.string ⟨#[]⟩, .slice none 0 0, .bool false] Tryz.underlying35 Tryz.sizeOf39 Tryz.zeroValue39 rfl rfl (by kernel_rfl) (by kernel_rfl) rfl (fun b48 => ?_)
  refine oj_step (y_build (cs := [.string ⟨#[97]⟩, .slice (some ⟨b48, 0, none⟩) 1 1, .slice none 0 0, .int .i64 0]) st37 rfl (by kernel_rfl)) rfl rfl rfl ?_
  refine oj_buildSlice (cs := [.string ⟨#[97]⟩, .slice (some ⟨b48, 0, none⟩) 1 1, .slice none 0 0, .int .i64 0]) [.string ⟨#[]⟩, .slice none 0 0, .slice none 0 0, .int .i64 0] Tryz.underlying22 Tryz.sizeOf37 Tryz.zeroValue37 rfl rfl (by kernel_rfl) (by kernel_rfl) rfl (fun b50 => ?_)
  refine oj_buildSlice (cs := [.string ⟨#[118]⟩, .string ⟨#[118]⟩]) [.string ⟨#[]⟩, .string ⟨#[]⟩] Tryz.underlying23 Tryz.sizeOf9 Tryz.zeroValue9 rfl rfl (by kernel_rfl) (by kernel_rfl) rfl (fun b51 => ?_)
  refine oj_step (y_build (cs := [.string ⟨#[116]⟩, .slice (some ⟨b51, 0, none⟩) 2 2, .bool false]) st39 rfl (by kernel_rfl)) rfl rfl rfl ?_
  refine oj_buildSlice (cs := [.string ⟨#[116]⟩, .slice (some ⟨b51, 0, none⟩) 2 2, .bool false]) [.string ⟨#[]⟩, .slice none 0 0, .bool false] Tryz.underlying35 Tryz.sizeOf39 Tryz.zeroValue39 rfl rfl (by kernel_rfl) (by kernel_rfl) rfl (fun b53 => ?_)
  refine oj_step (y_build (cs := [.string ⟨#[97]⟩, .slice (some ⟨b53, 0, none⟩) 1 1, .slice none 0 0, .int .i64 0]) st37 rfl (by kernel_rfl)) rfl rfl rfl ?_
  refine oj_buildSlice (cs := [.string ⟨#[97]⟩, .slice (some ⟨b53, 0, none⟩) 1 1, .slice none 0 0, .int .i64 0]) [.string ⟨#[]⟩, .slice none 0 0, .slice none 0 0, .int .i64 0] Tryz.underlying22 Tryz.sizeOf37 Tryz.zeroValue37 rfl rfl (by kernel_rfl) (by kernel_rfl) rfl (fun b55 => ?_)
  refine oj_buildSlice (cs := [.string ⟨#[97]⟩]) [.string ⟨#[]⟩] Tryz.underlying23 Tryz.sizeOf9 Tryz.zeroValue9 rfl rfl (by kernel_rfl) (by kernel_rfl) rfl (fun b56 => ?_)
  refine oj_step (y_build (cs := [.string ⟨#[97]⟩, .slice none 0 0, .slice (some ⟨b56, 0, none⟩) 1 1, .int .i64 7]) st37 rfl (by kernel_rfl)) rfl rfl rfl ?_
  refine oj_buildSlice (cs := [.string ⟨#[97]⟩, .slice none 0 0, .slice (some ⟨b56, 0, none⟩) 1 1, .int .i64 7]) [.string ⟨#[]⟩, .slice none 0 0, .slice none 0 0, .int .i64 0] Tryz.underlying22 Tryz.sizeOf37 Tryz.zeroValue37 rfl rfl (by kernel_rfl) (by kernel_rfl) rfl (fun b58 => ?_)
  refine oj_buildSlice (cs := [.slice none 0 0, .slice (some ⟨b38, 0, none⟩) 1 1, .slice (some ⟨b41, 0, none⟩) 2 2, .slice (some ⟨b43, 0, none⟩) 1 1, .slice (some ⟨b46, 0, none⟩) 1 1, .slice (some ⟨b50, 0, none⟩) 1 1, .slice (some ⟨b55, 0, none⟩) 1 1, .slice (some ⟨b58, 0, none⟩) 1 1]) [.slice none 0 0, .slice none 0 0, .slice none 0 0, .slice none 0 0, .slice none 0 0, .slice none 0 0, .slice none 0 0, .slice none 0 0] Tryz.underlying40 Tryz.sizeOf22 Tryz.zeroValue22 rfl rfl (by kernel_rfl) (by kernel_rfl) rfl (fun b59 => ?_)
  refine oj_step (y_assign rfl) rfl rfl rfl ?_
  refine oj_nil ?_
  refine ej_th ?_
  refine cj_cuti (X := Unit) [] trivial (fun _ => True) (fun _ => []) (fun _ => []) (fun _ => [gl 0 [.int .i64 mx]]) ?_ ?_
  · refine cj_seq ?_
    refine cj_regionG (gj_step (y_assign rfl) rfl rfl rfl (gj_nil ?_))
    refine ej_th (cj_block ?_)
    refine cj_lpic (X := Nat) [(1, _)] (fun i => i ≤ 8) (fun i => [(2, .int .i64 (i : Nat))]) (fun i => 8 - i) 0 (Nat.zero_le _) ⟨rfl, rfl, trivial⟩ ?_
    rintro i hi
    dsimp only [List.cons_append, List.nil_append]
    refine cj_seq (cj_seq ?_)
    refine cj_regionG (gj_step (y_move rfl) rfl rfl rfl (gj_step (y_move rfl) rfl rfl rfl (gj_step (y_lenA Tryz.underlying40 rfl) rfl rfl rfl (gj_step (y_lss rfl rfl) rfl rfl rfl (gj_nil ?_)))))
    refine ej_th ?_
    refine cj_cond rfl (fun h63 => ?_) (fun h63 => ?_)
    · have h63b := h63
      try simp only [sxb] at h63
      have hi8 : i < 8 := by omega
      refine cj_skip (ej_th (cj_seq (cj_block (cj_seq ?_))))
      refine cj_regionG ?_
      refine gj_step (y_move rfl) rfl rfl rfl (gj_step (y_move rfl) rfl rfl rfl (gj_step (y_ixL i Tryz.underlying40 Tryz.sizeOf22 rfl rfl ⟨by omega, by omega⟩ (by omega)) rfl rfl rfl (gj_step (y_load1 Tryz.isAgg22 rfl (tkG b44 b48 b51 b53 b56 b38 b41 b43 b46 b50 b55 b58 hi8)) rfl rfl rfl (?_))))
      refine gj_step (y_call Tryz.call12 rfl (fun w hp => by
        have h1 : Rd w 4 encCl (bgA b38 b41 b43 b46 b50 b55 b58 i) (bgK b44 b48 b51 b53 b56 i) := by
          rcases lt8 hi8 with rfl | rfl | rfl | rfl | rfl | rfl | rfl | rfl
          · exact Rd.nil
          · exact (hp.rdLit (b := b38) (sz := 4) (enc := encCl) bg1 (fun _ => rfl) rfl (by unfold maxLen; simp))
          · exact (hp.rdLit (b := b41) (sz := 4) (enc := encCl) bg2 (fun _ => rfl) rfl (by unfold maxLen; simp))
          · exact (hp.rdLit (b := b43) (sz := 4) (enc := encCl) bg3 (fun _ => rfl) rfl (by unfold maxLen; simp))
          · exact (hp.rdLit (b := b46) (sz := 4) (enc := encCl) (bg4 b44) (fun _ => rfl) rfl (by unfold maxLen; simp))
          · exact (hp.rdLit (b := b50) (sz := 4) (enc := encCl) (bg5 b48) (fun _ => rfl) rfl (by unfold maxLen; simp))
          · exact (hp.rdLit (b := b55) (sz := 4) (enc := encCl) (bg6 b53 b51) (fun _ => rfl) rfl (by unfold maxLen; simp))
          · exact (hp.rdLit (b := b58) (sz := 4) (enc := encCl) (bg7 b56) (fun _ => rfl) rfl (by unfold maxLen; simp))
        have h2 : ∀ q ∈ bgK b44 b48 b51 b53 b56 i, GoodC w q := by
          rcases lt8 hi8 with rfl | rfl | rfl | rfl | rfl | rfl | rfl | rfl
          · exact fun q hq => by cases hq
          · exact all1 ⟨Rd.nil, (fun t ht => by cases ht), Rd.nil, (fun s hs => by cases hs), show ByteArray.size sNone ≤ 9223372036854775807 by decide⟩
          · exact allC ⟨Rd.nil, (fun t ht => by cases ht), Rd.nil, (fun s hs => by cases hs), show ByteArray.size sA ≤ 9223372036854775807 by decide⟩ (all1 ⟨Rd.nil, (fun t ht => by cases ht), Rd.nil, (fun s hs => by cases hs), show ByteArray.size sA ≤ 9223372036854775807 by decide⟩)
          · exact all1 ⟨Rd.nil, (fun t ht => by cases ht), Rd.nil, (fun s hs => by cases hs), show ByteArray.size sA ≤ 9223372036854775807 by decide⟩
          · exact all1 ⟨Rd.nil, (fun t ht => by cases ht), (hp.rdLit (b := b44) (sz := 1) (enc := enStr) [sB] (fun _ => rfl) rfl (by unfold maxLen; simp)), show smS [sB] by decide, show ByteArray.size sA ≤ 9223372036854775807 by decide⟩
          · exact all1 ⟨(hp.rdLit (b := b48) (sz := 3) (enc := encTr) ([⟨sT, none, 0, [], false⟩] : List TraitV) (fun _ => rfl) rfl (by unfold maxLen; simp)), all1 ⟨Rd.nil, (fun s hs => by cases hs), show ByteArray.size sT ≤ 9223372036854775807 by decide⟩, Rd.nil, (fun s hs => by cases hs), show ByteArray.size sA ≤ 9223372036854775807 by decide⟩
          · exact all1 ⟨(hp.rdLit (b := b53) (sz := 3) (enc := encTr) ([⟨sT, at0 b51, 2, [sV, sV], false⟩] : List TraitV) (fun _ => rfl) rfl (by unfold maxLen; simp)), all1 ⟨(hp.rdLit (b := b51) (sz := 1) (enc := enStr) [sV, sV] (fun _ => rfl) rfl (by unfold maxLen; simp)), show smS [sV, sV] by decide, show ByteArray.size sT ≤ 9223372036854775807 by decide⟩, Rd.nil, (fun s hs => by cases hs), show ByteArray.size sA ≤ 9223372036854775807 by decide⟩
          · exact all1 ⟨Rd.nil, (fun t ht => by cases ht), (hp.rdLit (b := b56) (sz := 1) (enc := enStr) [sA] (fun _ => rfl) rfl (by unfold maxLen; simp)), show smS [sA] by decide, show ByteArray.size sA ≤ 9223372036854775807 by decide⟩
        have h8 := k_CheckG (bgK b44 b48 b51 b53 b56 i) (bgA b38 b41 b43 b46 b50 b55 b58 i) (bgC i) w h1 h2
        rw [(bgE b44 b48 b51 b53 b56 hi8).1] at h8
        exact h8)) rfl rfl rfl ?_
      refine gj_step (y_neq rfl rfl) rfl rfl rfl (gj_step (y_move rfl) rfl rfl rfl (?_))
      refine gj_g 7 72 79 rfl rfl rfl rfl (fun hg72 => gj_yes rfl rfl rfl (y_move rfl) rfl rfl (gj_yes rfl rfl rfl (y_move rfl) rfl rfl (gj_yes rfl rfl rfl (y_ixL i Tryz.underlying40 Tryz.sizeOf22 rfl rfl ⟨by omega, by omega⟩ (by omega)) rfl rfl (gj_yes rfl rfl rfl (y_load1 Tryz.isAgg22 rfl (tkG b44 b48 b51 b53 b56 b38 b41 b43 b46 b50 b55 b58 hi8)) rfl rfl (gj_yes rfl rfl rfl (y_build (cs := [.string ⟨#[97]⟩, .slice none 0 0, .slice none 0 0]) st26 rfl (by kernel_rfl)) rfl rfl (gj_yes rfl rfl rfl (y_call Tryz.call13 rfl (fun w hp => by
        have h1 : Rd w 4 encCl (bgA b38 b41 b43 b46 b50 b55 b58 i) (bgK b44 b48 b51 b53 b56 i) := by
          rcases lt8 hi8 with rfl | rfl | rfl | rfl | rfl | rfl | rfl | rfl
          · exact Rd.nil
          · exact (hp.rdLit (b := b38) (sz := 4) (enc := encCl) bg1 (fun _ => rfl) rfl (by unfold maxLen; simp))
          · exact (hp.rdLit (b := b41) (sz := 4) (enc := encCl) bg2 (fun _ => rfl) rfl (by unfold maxLen; simp))
          · exact (hp.rdLit (b := b43) (sz := 4) (enc := encCl) bg3 (fun _ => rfl) rfl (by unfold maxLen; simp))
          · exact (hp.rdLit (b := b46) (sz := 4) (enc := encCl) (bg4 b44) (fun _ => rfl) rfl (by unfold maxLen; simp))
          · exact (hp.rdLit (b := b50) (sz := 4) (enc := encCl) (bg5 b48) (fun _ => rfl) rfl (by unfold maxLen; simp))
          · exact (hp.rdLit (b := b55) (sz := 4) (enc := encCl) (bg6 b53 b51) (fun _ => rfl) rfl (by unfold maxLen; simp))
          · exact (hp.rdLit (b := b58) (sz := 4) (enc := encCl) (bg7 b56) (fun _ => rfl) rfl (by unfold maxLen; simp))
        have h2 : ∀ q ∈ bgK b44 b48 b51 b53 b56 i, GoodC w q := by
          rcases lt8 hi8 with rfl | rfl | rfl | rfl | rfl | rfl | rfl | rfl
          · exact fun q hq => by cases hq
          · exact all1 ⟨Rd.nil, (fun t ht => by cases ht), Rd.nil, (fun s hs => by cases hs), show ByteArray.size sNone ≤ 9223372036854775807 by decide⟩
          · exact allC ⟨Rd.nil, (fun t ht => by cases ht), Rd.nil, (fun s hs => by cases hs), show ByteArray.size sA ≤ 9223372036854775807 by decide⟩ (all1 ⟨Rd.nil, (fun t ht => by cases ht), Rd.nil, (fun s hs => by cases hs), show ByteArray.size sA ≤ 9223372036854775807 by decide⟩)
          · exact all1 ⟨Rd.nil, (fun t ht => by cases ht), Rd.nil, (fun s hs => by cases hs), show ByteArray.size sA ≤ 9223372036854775807 by decide⟩
          · exact all1 ⟨Rd.nil, (fun t ht => by cases ht), (hp.rdLit (b := b44) (sz := 1) (enc := enStr) [sB] (fun _ => rfl) rfl (by unfold maxLen; simp)), show smS [sB] by decide, show ByteArray.size sA ≤ 9223372036854775807 by decide⟩
          · exact all1 ⟨(hp.rdLit (b := b48) (sz := 3) (enc := encTr) ([⟨sT, none, 0, [], false⟩] : List TraitV) (fun _ => rfl) rfl (by unfold maxLen; simp)), all1 ⟨Rd.nil, (fun s hs => by cases hs), show ByteArray.size sT ≤ 9223372036854775807 by decide⟩, Rd.nil, (fun s hs => by cases hs), show ByteArray.size sA ≤ 9223372036854775807 by decide⟩
          · exact all1 ⟨(hp.rdLit (b := b53) (sz := 3) (enc := encTr) ([⟨sT, at0 b51, 2, [sV, sV], false⟩] : List TraitV) (fun _ => rfl) rfl (by unfold maxLen; simp)), all1 ⟨(hp.rdLit (b := b51) (sz := 1) (enc := enStr) [sV, sV] (fun _ => rfl) rfl (by unfold maxLen; simp)), show smS [sV, sV] by decide, show ByteArray.size sT ≤ 9223372036854775807 by decide⟩, Rd.nil, (fun s hs => by cases hs), show ByteArray.size sA ≤ 9223372036854775807 by decide⟩
          · exact all1 ⟨Rd.nil, (fun t ht => by cases ht), (hp.rdLit (b := b56) (sz := 1) (enc := enStr) [sA] (fun _ => rfl) rfl (by unfold maxLen; simp)), show smS [sA] by decide, show ByteArray.size sA ≤ 9223372036854775807 by decide⟩
        have h8 := k_Check (bgK b44 b48 b51 b53 b56 i) (bgA b38 b41 b43 b46 b50 b55 b58 i) (bgC i) itA w h1 h2 (itA_good w)
        rw [(bgE b44 b48 b51 b53 b56 hi8).2] at h8
        exact h8)) rfl rfl (gj_yes rfl rfl rfl (y_neq rfl rfl) rfl rfl (gj_nil rfl)))))))) ?_
      refine gj_step (y_or rfl rfl rfl) rfl rfl rfl (?_)
      refine gj_nil ?_
      refine ej_th ?_
      refine cj_condF rfl (by decide) ?_
      refine cj_skip (ej_blk (ej_th ?_))
      refine cj_regionG (gj_step (y_move rfl) rfl rfl rfl (gj_step (y_add rfl rfl (by omega)) rfl rfl rfl (gj_step (y_assign rfl) rfl rfl rfl (gj_nil ?_))))
      exact ej_nx (i + 1) (by omega) (by omega) ⟨rfl, rfl, trivial⟩
    · have h63b := h63
      try simp only [sxb] at h63
      refine cj_exit (ej_then_exit (ej_then_exit (ej_blk_hit ?_)))
      exact ej_ct () trivial trivial
  · rintro - -
    dsimp only [List.cons_append, List.nil_append]
    refine cj_cuti (X := Unit) [] trivial (fun _ => True) (fun _ => []) (fun _ => []) (fun _ => [gl 0 [.int .i64 mx]]) ?_ ?_
    · refine cj_seq (cj_region ?_)
      refine oj_step (y_call Tryz.call14 rfl (fun w hp => by
        have h8 := k_IsWord ⟨#[97, 45, 49]⟩ w (by decide)
        rw [knW.1] at h8
        exact h8)) rfl rfl rfl ?_
      refine oj_step (y_not rfl) rfl rfl rfl ?_
      refine oj_step (y_move rfl) rfl rfl rfl ?_
      refine oj_yes rfl rfl rfl ?_
      refine oj_step (y_call Tryz.call14 rfl (fun w hp => by
        have h8 := k_IsWord ⟨#[]⟩ w (by decide)
        rw [knW.2.1] at h8
        exact h8)) rfl rfl rfl ?_
      refine oj_step (y_pick rfl rfl rfl) rfl rfl rfl ?_
      refine oj_step (y_move rfl) rfl rfl rfl ?_
      refine oj_yes rfl rfl rfl ?_
      refine oj_step (y_call Tryz.call14 rfl (fun w hp => by
        have h8 := k_IsWord ⟨#[45, 97]⟩ w (by decide)
        rw [knW.2.2.1] at h8
        exact h8)) rfl rfl rfl ?_
      refine oj_step (y_pick rfl rfl rfl) rfl rfl rfl ?_
      refine oj_step (y_move rfl) rfl rfl rfl ?_
      refine oj_yes rfl rfl rfl ?_
      refine oj_step (y_call Tryz.call14 rfl (fun w hp => by
        have h8 := k_IsWord ⟨#[49, 97]⟩ w (by decide)
        rw [knW.2.2.2.1] at h8
        exact h8)) rfl rfl rfl ?_
      refine oj_step (y_pick rfl rfl rfl) rfl rfl rfl ?_
      refine oj_step (y_move rfl) rfl rfl rfl ?_
      refine oj_yes rfl rfl rfl ?_
      refine oj_step (y_call Tryz.call14 rfl (fun w hp => by
        have h8 := k_IsWord ⟨#[97, 95, 98]⟩ w (by decide)
        rw [knW.2.2.2.2.1] at h8
        exact h8)) rfl rfl rfl ?_
      refine oj_step (y_pick rfl rfl rfl) rfl rfl rfl ?_
      refine oj_step (y_move rfl) rfl rfl rfl ?_
      refine oj_yes rfl rfl rfl ?_
      refine oj_step (y_call Tryz.call14 rfl (fun w hp => by
        have h8 := k_IsWord ⟨#[97, 98, 99, 100, 101, 102, 103, 104, 105, 106, 107, 108, 109, 110, 111, 112, 113]⟩ w (by decide)
        rw [knW.2.2.2.2.2] at h8
        exact h8)) rfl rfl rfl ?_
      refine oj_step (y_pick rfl rfl rfl) rfl rfl rfl ?_
      refine oj_nil ?_
      refine ej_th ?_
      refine cj_condF rfl (by decide) ?_
      refine cj_skip ?_
      exact ej_ct () trivial trivial
    · rintro - -
      dsimp only [List.cons_append, List.nil_append]
      refine cj_wk [] [] [gl 0 [.int .i64 mx]] trivial ?_
      refine cj_seq (cj_region ?_)
      refine oj_step (y_build st26 rfl rfl) rfl rfl rfl ?_
      refine oj_step (y_build (cs := [.string ⟨#[114, 105, 110, 103]⟩, .slice none 0 0, .slice none 0 0]) st26 rfl (by kernel_rfl)) rfl rfl rfl ?_
      refine oj_buildSlice (cs := [.string ⟨#[]⟩, .string ⟨#[]⟩]) [.string ⟨#[]⟩, .string ⟨#[]⟩] Tryz.underlying23 Tryz.sizeOf9 Tryz.zeroValue9 rfl rfl (by kernel_rfl) (by kernel_rfl) rfl (fun b100 => ?_)
      refine oj_step (y_build (cs := [.string ⟨#[114, 105, 110, 103]⟩, .slice (some ⟨b100, 0, none⟩) 2 2, .slice none 0 0]) st26 rfl (by kernel_rfl)) rfl rfl rfl ?_
      refine oj_buildSlice (cs := [.string ⟨#[103, 111, 108, 100]⟩, .string ⟨#[98, 105, 103]⟩]) [.string ⟨#[]⟩, .string ⟨#[]⟩] Tryz.underlying23 Tryz.sizeOf9 Tryz.zeroValue9 rfl rfl (by kernel_rfl) (by kernel_rfl) rfl (fun b102 => ?_)
      refine oj_step (y_build (cs := [.string ⟨#[114, 105, 110, 103]⟩, .slice (some ⟨b102, 0, none⟩) 2 2, .slice none 0 0]) st26 rfl (by kernel_rfl)) rfl rfl rfl ?_
      refine oj_call (X := Nat) (fun x => .agg #[.string sGem, .slice (some ⟨x, 0, none⟩) 1 1, .slice none 0 0]) (fun _ => []) (fun x => [litS x 1 enStr [sNone]]) Tryz.call16 rfl (fun w hp => k_gem sNone w) rfl (fun g104 => ?_)
      dsimp only [List.nil_append, List.cons_append]
      refine oj_call (X := Nat) (fun x => .agg #[.string sGem, .slice (some ⟨x, 0, none⟩) 1 1, .slice none 0 0]) (fun _ => []) (fun x => [litS x 1 enStr [sNone]]) Tryz.call16 rfl (fun w hp => k_gem sNone w) rfl (fun g105 => ?_)
      dsimp only [List.nil_append, List.cons_append]
      refine oj_call (X := Nat) (fun x => .agg #[.string sGem, .slice (some ⟨x, 0, none⟩) 1 1, .slice none 0 0]) (fun _ => []) (fun x => [litS x 1 enStr [sNone]]) Tryz.call16 rfl (fun w hp => k_gem sNone w) rfl (fun g106 => ?_)
      dsimp only [List.nil_append, List.cons_append]
      refine oj_buildSlice (cs := [.string sGem, .slice (some ⟨g104, 0, none⟩) 1 1, .slice none 0 0, .string sGem, .slice (some ⟨g105, 0, none⟩) 1 1, .slice none 0 0, .string sGem, .slice (some ⟨g106, 0, none⟩) 1 1, .slice none 0 0]) [.string ⟨#[]⟩, .slice none 0 0, .slice none 0 0, .string ⟨#[]⟩, .slice none 0 0, .slice none 0 0, .string ⟨#[]⟩, .slice none 0 0, .slice none 0 0] Tryz.underlying24 Tryz.sizeOf26 Tryz.zeroValue26 rfl rfl (by kernel_rfl) (by kernel_rfl) rfl (fun b107 => ?_)
      refine oj_call (X := Nat) (fun x => .agg #[.string sRing, .slice (some ⟨x, 0, none⟩) 2 2, .slice (some ⟨b107, 0, none⟩) 3 3]) (fun _ => []) (fun x => [litS x 1 enStr [sGold, sNone]]) Tryz.call15 rfl (fun w hp => k_jewel sNone (some ⟨b107, 0, none⟩) 3 3 w) rfl (fun j108 => ?_)
      dsimp only [List.nil_append, List.cons_append]
      refine oj_call (X := Nat) (fun x => .agg #[.string sRing, .slice (some ⟨x, 0, none⟩) 2 2, .slice (none) 0 0]) (fun _ => []) (fun x => [litS x 1 enStr [sGold, sNone]]) Tryz.call15 rfl (fun w hp => k_jewel sNone (none) 0 0 w) rfl (fun j109 => ?_)
      dsimp only [List.nil_append, List.cons_append]
      refine oj_buildSlice (cs := [.string sRing, .slice (some ⟨j109, 0, none⟩) 2 2, .slice none 0 0]) [.string ⟨#[]⟩, .slice none 0 0, .slice none 0 0] Tryz.underlying24 Tryz.sizeOf26 Tryz.zeroValue26 rfl rfl (by kernel_rfl) (by kernel_rfl) rfl (fun b110 => ?_)
      refine oj_call (X := Nat) (fun x => .agg #[.string sRing, .slice (some ⟨x, 0, none⟩) 2 2, .slice (some ⟨b110, 0, none⟩) 1 1]) (fun _ => []) (fun x => [litS x 1 enStr [sGold, sNone]]) Tryz.call15 rfl (fun w hp => k_jewel sNone (some ⟨b110, 0, none⟩) 1 1 w) rfl (fun j111 => ?_)
      dsimp only [List.nil_append, List.cons_append]
      refine oj_buildSlice (cs := [.string ⟨#[]⟩, .string ⟨#[]⟩]) [.string ⟨#[]⟩, .string ⟨#[]⟩] Tryz.underlying23 Tryz.sizeOf9 Tryz.zeroValue9 rfl rfl (by kernel_rfl) (by kernel_rfl) rfl (fun b112 => ?_)
      refine oj_step (y_build (cs := [.string ⟨#[103, 101, 109]⟩, .slice (some ⟨b112, 0, none⟩) 2 2, .slice none 0 0]) st26 rfl (by kernel_rfl)) rfl rfl rfl ?_
      refine oj_buildSlice (cs := [.string ⟨#[]⟩, .slice none 0 0, .slice none 0 0, .string ⟨#[114, 105, 110, 103]⟩, .slice none 0 0, .slice none 0 0, .string ⟨#[114, 105, 110, 103]⟩, .slice (some ⟨b100, 0, none⟩) 2 2, .slice none 0 0, .string ⟨#[114, 105, 110, 103]⟩, .slice (some ⟨b102, 0, none⟩) 2 2, .slice none 0 0, .string sRing, .slice (some ⟨j108, 0, none⟩) 2 2, .slice (some ⟨b107, 0, none⟩) 3 3, .string sRing, .slice (some ⟨j111, 0, none⟩) 2 2, .slice (some ⟨b110, 0, none⟩) 1 1, .string ⟨#[103, 101, 109]⟩, .slice (some ⟨b112, 0, none⟩) 2 2, .slice none 0 0]) [.string ⟨#[]⟩, .slice none 0 0, .slice none 0 0, .string ⟨#[]⟩, .slice none 0 0, .slice none 0 0, .string ⟨#[]⟩, .slice none 0 0, .slice none 0 0, .string ⟨#[]⟩, .slice none 0 0, .slice none 0 0, .string ⟨#[]⟩, .slice none 0 0, .slice none 0 0, .string ⟨#[]⟩, .slice none 0 0, .slice none 0 0, .string ⟨#[]⟩, .slice none 0 0, .slice none 0 0] Tryz.underlying24 Tryz.sizeOf26 Tryz.zeroValue26 rfl rfl (by kernel_rfl) (by kernel_rfl) rfl (fun b114 => ?_)
      refine oj_step (y_assign rfl) rfl rfl rfl ?_
      refine oj_nil ?_
      refine ej_th ?_
      refine cj_cuti (X := Unit) [] trivial (fun _ => True) (fun _ => []) (fun _ => []) (fun _ => [gl 0 [.int .i64 mx]]) ?_ ?_
      · refine cj_seq ?_
        refine cj_regionG (gj_step (y_assign rfl) rfl rfl rfl (gj_nil ?_))
        refine ej_th (cj_block ?_)
        refine cj_lpic (X := Nat) [(3, _)] (fun i => i ≤ 7) (fun i => [(4, .int .i64 (i : Nat))]) (fun i => 7 - i) 0 (Nat.zero_le _) ⟨rfl, rfl, trivial⟩ ?_
        rintro i hi
        dsimp only [List.cons_append, List.nil_append]
        refine cj_seq (cj_seq ?_)
        refine cj_regionG (gj_step (y_move rfl) rfl rfl rfl (gj_step (y_move rfl) rfl rfl rfl (gj_step (y_lenA Tryz.underlying24 rfl) rfl rfl rfl (gj_step (y_lss rfl rfl) rfl rfl rfl (gj_nil ?_)))))
        refine ej_th ?_
        refine cj_cond rfl (fun h118 => ?_) (fun h118 => ?_)
        · have h118b := h118
          try simp only [sxb] at h118
          obtain ⟨x, hx⟩ : ∃ x, ([wr0, wr1, wr2 b100, wr3 b102, wr4 j108 b107 g104 g105 g106, wr5 j111 b110 j109, wr6 b112] : List ItemV)[i]? = some x := ⟨_, List.getElem?_eq_getElem (show i < 7 by omega)⟩
          refine cj_skip (ej_th (cj_seq (cj_block (cj_seq ?_))))
          refine cj_plan 11 (by kernel_rfl) (by kernel_rfl) ?_
          refine pl_y 1 rfl (y_move rfl) rfl rfl rfl rfl (by kernel_rfl) ?_
          refine pl_y 2 rfl (y_move rfl) rfl rfl rfl rfl (by kernel_rfl) ?_
          refine pl_y 3 rfl (y_ixR (reads_lit (sz := 3) (enc := encIt) ([wr0, wr1, wr2 b100, wr3 b102, wr4 j108 b107 g104 g105 g106, wr5 j111 b110 j109, wr6 b112] : List ItemV) (fun _ => rfl) rfl) Tryz.underlying24 Tryz.sizeOf26 rfl rfl (show (0 : Int) ≤ (i : Nat) ∧ ((i : Nat) : Int) < 7 by omega)) rfl rfl rfl rfl (by kernel_rfl) ?_
          refine pl_y 4 rfl (y_ldW (reads_lit (sz := 3) (enc := encIt) ([wr0, wr1, wr2 b100, wr3 b102, wr4 j108 b107 g104 g105 g106, wr5 j111 b110 j109, wr6 b112] : List ItemV) (fun _ => rfl) rfl) Tryz.isAgg26 Tryz.sizeOf26 rfl hx (fun _ => rfl)) rfl rfl rfl rfl (by kernel_rfl) ?_
          refine pl_w1 0 (by kernel_rfl) rfl rfl (pl_fire rfl rfl rfl (by kernel_rfl) ?_)
          refine oj_call (X := GrA × Nat × Nat) (fun z => .slice (some ⟨z.1.g12, 0, none⟩) 2 2) (fun _ => []) (fun z => [clF (fun i => z.2.1 ≤ i ∧ i < z.2.2) (at0 z.1.g12) (gramV z.1)]) Tryz.call17 rfl (fun w hp => k_grammar w) rfl ?_
          rintro ⟨a122, n122, m122⟩
          dsimp only [List.nil_append, List.cons_append]
          refine oj_nil ?_
          refine ej_pl (lt_y (y_ldW (reads_lit (sz := 3) (enc := encIt) ([wr0, wr1, wr2 b100, wr3 b102, wr4 j108 b107 g104 g105 g106, wr5 j111 b110 j109, wr6 b112] : List ItemV) (fun _ => rfl) rfl) Tryz.isAgg26 Tryz.sizeOf26 rfl hx (fun _ => rfl)) rfl (lt_y (y_ixR (reads_lit (sz := 3) (enc := encIt) ([wr0, wr1, wr2 b100, wr3 b102, wr4 j108 b107 g104 g105 g106, wr5 j111 b110 j109, wr6 b112] : List ItemV) (fun _ => rfl) rfl) Tryz.underlying24 Tryz.sizeOf26 rfl rfl (show (0 : Int) ≤ (i : Nat) ∧ ((i : Nat) : Int) < 7 by omega)) rfl (lt_y (y_move rfl) rfl (lt_y (y_move rfl) rfl (lt_nil))))) ?_
          refine pl_y 5 rfl (y_call Tryz.call6 rfl (fun w hp => by
            have hxm := List.mem_of_getElem? hx
            have hxe : askIE (gramV a122) [x] = 11 := wrEL a122 b100 b102 j108 b107 g104 g105 g106 j111 b110 j109 b112 x hxm
            have hxg : GoodI w x := by
              simp only [List.mem_cons, List.mem_nil_iff, or_false] at hxm
              rcases hxm with rfl | rfl | rfl | rfl | rfl | rfl | rfl
              · exact it_good0 Rd.nil (show ByteArray.size sNone ≤ 9223372036854775807 by decide) (fun t ht => by cases ht)
              · exact it_good0 Rd.nil (show ByteArray.size sRing ≤ 9223372036854775807 by decide) (fun t ht => by cases ht)
              · exact it_good0 (hp.rdLit (b := b100) (sz := 1) (enc := enStr) [sNone, sNone] (fun _ => rfl) rfl (by unfold maxLen; simp)) (by decide) (by decide)
              · exact it_good0 (hp.rdLit (b := b102) (sz := 1) (enc := enStr) [sGold, sBig] (fun _ => rfl) rfl (by unfold maxLen; simp)) (by decide) (by decide)
              · exact ring_good (b := j108) (g := b107) (s := sNone) (parts := [gemV g104 sNone, gemV g105 sNone, gemV g106 sNone]) hp.rd (by decide) (hp.rdLit (b := b107) (sz := 3) (enc := encIt) [gemV g104 sNone, gemV g105 sNone, gemV g106 sNone] (fun _ => rfl) rfl (by unfold maxLen; simp)) (allC (gem_good (b := g104) (s := sNone) hp.rd (by decide)) (allC (gem_good (b := g105) (s := sNone) hp.rd (by decide)) (all1 (gem_good (b := g106) (s := sNone) hp.rd (by decide)))))
              · exact ring_good (b := j111) (g := b110) (s := sNone) (parts := [wr5a j109]) hp.rd (by decide) (hp.rdLit (b := b110) (sz := 3) (enc := encIt) [wr5a j109] (fun _ => rfl) rfl (by unfold maxLen; simp)) (all1 (it_good0 hp.rd (by decide) (by decide)))
              · exact it_good0 (hp.rdLit (b := b112) (sz := 1) (enc := enStr) [sNone, sNone] (fun _ => rfl) rfl (by unfold maxLen; simp)) (by decide) (by decide)
            have h8 := k_Print (gramV a122) (at0 a122.g12) 2 x w (hp_cl hp (fun i => n122 ≤ i ∧ i < m122) (at0 a122.g12) (gramV a122)).1 (hp_cl hp (fun i => n122 ≤ i ∧ i < m122) (at0 a122.g12) (gramV a122)).2 hxg
            rw [hxe] at h8
            exact h8)) rfl rfl rfl rfl (by kernel_rfl) ?_
          refine pl_y 6 rfl (y_move rfl) rfl rfl rfl rfl (by kernel_rfl) ?_
          refine pl_y 7 rfl (y_extract rfl rfl) rfl rfl rfl rfl (by kernel_rfl) ?_
          refine pl_y 8 rfl (y_extract rfl rfl) rfl rfl rfl rfl (by kernel_rfl) ?_
          refine pl_y 9 rfl (y_assign rfl) rfl rfl rfl rfl (by kernel_rfl) ?_
          refine pl_y 10 rfl (y_assign rfl) rfl rfl rfl rfl (by kernel_rfl) ?_
          refine pl_end (by kernel_rfl) ?_
          refine ej_th (cj_seq ?_)
          refine cj_regionG (gj_step (y_move rfl) rfl rfl rfl (gj_step (y_neq rfl rfl) rfl rfl rfl (gj_nil ?_)))
          refine ej_th ?_
          refine cj_condF rfl (by decide) ?_
          refine cj_skip (ej_blk (ej_th ?_))
          refine cj_regionG (gj_step (y_move rfl) rfl rfl rfl (gj_step (y_add rfl rfl (by omega)) rfl rfl rfl (gj_step (y_assign rfl) rfl rfl rfl (gj_nil ?_))))
          exact ej_nx (i + 1) (by omega) (by omega) ⟨rfl, rfl, trivial⟩
        · have h118b := h118
          try simp only [sxb] at h118
          refine cj_exit (ej_then_exit (ej_then_exit (ej_blk_hit ?_)))
          exact ej_ct () trivial trivial
      · rintro - -
        dsimp only [List.cons_append, List.nil_append]
        refine cj_wk [] [] [gl 0 [.int .i64 mx]] trivial ?_
        refine cj_seq (cj_region ?_)
        refine oj_buildSlice (cs := [.string ⟨#[98, 111, 120]⟩]) [.string ⟨#[]⟩] Tryz.underlying23 Tryz.sizeOf9 Tryz.zeroValue9 rfl rfl (by kernel_rfl) (by kernel_rfl) rfl (fun b132 => ?_)
        refine oj_step (y_build (cs := [.string ⟨#[98, 111, 120]⟩, .slice none 0 0, .slice (some ⟨b132, 0, none⟩) 1 1, .int .i64 6]) st37 rfl (by kernel_rfl)) rfl rfl rfl ?_
        refine oj_buildSlice (cs := [.string ⟨#[98, 111, 120]⟩, .slice none 0 0, .slice (some ⟨b132, 0, none⟩) 1 1, .int .i64 6]) [.string ⟨#[]⟩, .slice none 0 0, .slice none 0 0, .int .i64 0] Tryz.underlying22 Tryz.sizeOf37 Tryz.zeroValue37 rfl rfl (by kernel_rfl) (by kernel_rfl) rfl (fun b134 => ?_)
        refine oj_step (y_assign rfl) rfl rfl rfl ?_
        refine oj_nil ?_
        refine ej_th (cj_seq ?_)
        refine cj_regionG (gj_step (y_assign rfl) rfl rfl rfl (gj_nil ?_))
        refine ej_th (cj_seq (cj_region ?_))
        refine oj_step (y_move rfl) rfl rfl rfl ?_
        refine oj_step (y_callV Tryz.call18 rfl rfl (fun w hp => k_box none 0 0 w)) rfl rfl rfl ?_
        refine oj_alloc Tryz.zeroValue26 rfl rfl (fun b9 => ?_)
        refine oj_store rfl rfl rfl rfl Tryz.sizeOf26 rfl ?_
        refine oj_nil ?_
        refine ej_th (cj_seq (cj_region ?_))
        refine oj_step (y_move rfl) rfl rfl rfl ?_
        refine oj_step (y_loadN Tryz.isAgg26 Tryz.sizeOf26 rfl) rfl rfl rfl ?_
        refine oj_step (y_loadN Tryz.isAgg26 Tryz.sizeOf26 rfl) rfl rfl rfl ?_
        refine oj_step (y_loadN Tryz.isAgg26 Tryz.sizeOf26 rfl) rfl rfl rfl ?_
        refine oj_step (y_loadN Tryz.isAgg26 Tryz.sizeOf26 rfl) rfl rfl rfl ?_
        refine oj_buildSlice (cs := [.string sBox, .slice none 0 0, .slice none 0 0, .string sBox, .slice none 0 0, .slice none 0 0, .string sBox, .slice none 0 0, .slice none 0 0, .string sBox, .slice none 0 0, .slice none 0 0]) [.string ⟨#[]⟩, .slice none 0 0, .slice none 0 0, .string ⟨#[]⟩, .slice none 0 0, .slice none 0 0, .string ⟨#[]⟩, .slice none 0 0, .slice none 0 0, .string ⟨#[]⟩, .slice none 0 0, .slice none 0 0] Tryz.underlying24 Tryz.sizeOf26 Tryz.zeroValue26 rfl rfl (by kernel_rfl) (by kernel_rfl) rfl (fun b142 => ?_)
        refine oj_step (y_callV Tryz.call18 rfl rfl (fun w hp => k_box (some ⟨b142, 0, none⟩) 4 4 w)) rfl rfl rfl ?_
        refine oj_alloc Tryz.zeroValue26 rfl rfl (fun b10 => ?_)
        refine oj_store rfl rfl rfl rfl Tryz.sizeOf26 rfl ?_
        refine oj_nil ?_
        refine ej_th ?_
        refine cj_cuti (X := Unit) [] trivial (fun _ => True) (fun _ => []) (fun _ => []) (fun _ => [gl 0 [.int .i64 mx]]) ?_ ?_
        · refine cj_seq ?_
          refine cj_plan 60 (by kernel_rfl) (by kernel_rfl) ?_
          refine pl_y 0 rfl (y_move rfl) rfl rfl rfl rfl (by kernel_rfl) ?_
          refine pl_y 1 rfl (y_move rfl) rfl rfl rfl rfl (by kernel_rfl) ?_
          refine pl_y 2 rfl (y_move rfl) rfl rfl rfl rfl (by kernel_rfl) ?_
          refine pl_y 3 rfl (y_loadN Tryz.isAgg26 Tryz.sizeOf26 rfl) rfl rfl rfl rfl (by kernel_rfl) ?_
          refine pl_w1 4 (by kernel_rfl) rfl rfl (pl_fire rfl rfl rfl (by kernel_rfl) ?_)
          refine oj_buildSlice (cs := [.string sBox, .slice none 0 0, .slice none 0 0]) [.string ⟨#[]⟩, .slice none 0 0, .slice none 0 0] Tryz.underlying24 Tryz.sizeOf26 Tryz.zeroValue26 rfl rfl (by kernel_rfl) (by kernel_rfl) rfl (fun b148 => ?_)
          refine oj_nil ?_
          refine ej_pl (lt_w (by kernel_rfl) (lt_y (y_move rfl) rfl (lt_y (y_move rfl) rfl (lt_y (y_move rfl) rfl (lt_nil))))) ?_
          refine pl_y 5 rfl (y_callV Tryz.call18 rfl rfl (fun w hp => k_box (some ⟨b148, 0, none⟩) 1 1 w)) rfl rfl rfl rfl (by kernel_rfl) ?_
          refine pl_w1 6 (by kernel_rfl) rfl rfl (pl_fire rfl rfl rfl (by kernel_rfl) ?_)
          refine oj_buildSlice (cs := [.string sBox, .slice none 0 0, .slice (some ⟨b148, 0, none⟩) 1 1]) [.string ⟨#[]⟩, .slice none 0 0, .slice none 0 0] Tryz.underlying24 Tryz.sizeOf26 Tryz.zeroValue26 rfl rfl (by kernel_rfl) (by kernel_rfl) rfl (fun b150 => ?_)
          refine oj_nil ?_
          refine ej_pl (lt_w (by kernel_rfl) (lt_y (y_loadN Tryz.isAgg26 Tryz.sizeOf26 rfl) rfl (lt_y (y_move rfl) rfl (lt_y (y_move rfl) rfl (lt_y (y_move rfl) rfl (lt_nil)))))) ?_
          refine pl_y 7 rfl (y_callV Tryz.call18 rfl rfl (fun w hp => k_box (some ⟨b150, 0, none⟩) 1 1 w)) rfl rfl rfl rfl (by kernel_rfl) ?_
          refine pl_y 8 rfl (y_call Tryz.call13 rfl (fun w hp => kz_x1 b132 (some ⟨b134, 0, none⟩) w (hp.rdLit (b := b134) (sz := 4) (enc := encCl) (bxG b132) (fun _ => rfl) rfl (by unfold maxLen; simp)) (all1 ⟨Rd.nil, (fun t ht => by cases ht), (hp.rdLit (b := b132) (sz := 1) (enc := enStr) [sBox] (fun _ => rfl) rfl (by unfold maxLen; simp)), show smS [sBox] by decide, show ByteArray.size sBox ≤ 9223372036854775807 by decide⟩) b148 b150 (bx_good (b := b150) (hp.rdLit (b := b150) (sz := 3) (enc := encIt) [bxV b148 [bx0]] (fun _ => rfl) rfl (by unfold maxLen; simp)) (all1 (bx_good (b := b148) (hp.rdLit (b := b148) (sz := 3) (enc := encIt) [bx0] (fun _ => rfl) rfl (by unfold maxLen; simp)) (all1 (bx0_good w))))))) rfl rfl rfl rfl (by kernel_rfl) ?_
          refine pl_y 9 rfl (y_neq rfl rfl) rfl rfl rfl rfl (by kernel_rfl) ?_
          refine pl_y 10 rfl (y_move rfl) rfl rfl rfl rfl (by kernel_rfl) ?_
          refine pl_yY 11 rfl rfl rfl rfl rfl (y_move rfl) rfl rfl rfl (by kernel_rfl) ?_
          refine pl_yY 12 rfl rfl rfl rfl rfl (y_move rfl) rfl rfl rfl (by kernel_rfl) ?_
          refine pl_yY 13 rfl rfl rfl rfl rfl (y_move rfl) rfl rfl rfl (by kernel_rfl) ?_
          refine pl_yY 14 rfl rfl rfl rfl rfl (y_move rfl) rfl rfl rfl (by kernel_rfl) ?_
          refine pl_yY 15 rfl rfl rfl rfl rfl (y_loadN Tryz.isAgg26 Tryz.sizeOf26 rfl) rfl rfl rfl (by kernel_rfl) ?_
          refine pl_w1 16 (by kernel_rfl) rfl rfl (pl_fireG rfl rfl rfl rfl rfl rfl (by kernel_rfl) ?_)
          refine oj_yesE rfl rfl rfl rfl ?_
          refine oj_buildSlice (cs := [.string sBox, .slice none 0 0, .slice none 0 0]) [.string ⟨#[]⟩, .slice none 0 0, .slice none 0 0] Tryz.underlying24 Tryz.sizeOf26 Tryz.zeroValue26 rfl rfl (by kernel_rfl) (by kernel_rfl) rfl (fun b160 => ?_)
          refine oj_nil ?_
          refine ej_pl (lt_w (by kernel_rfl) (lt_yY rfl rfl rfl rfl (y_move rfl) (lt_yY rfl rfl rfl rfl (y_move rfl) (lt_yY rfl rfl rfl rfl (y_move rfl) (lt_yY rfl rfl rfl rfl (y_move rfl) (lt_w (by kernel_rfl) (lt_y (y_neq rfl rfl) rfl (lt_y (y_call Tryz.call13 rfl (fun w hp => kz_x1 b132 (some ⟨b134, 0, none⟩) w (hp.rdLit (b := b134) (sz := 4) (enc := encCl) (bxG b132) (fun _ => rfl) rfl (by unfold maxLen; simp)) (all1 ⟨Rd.nil, (fun t ht => by cases ht), (hp.rdLit (b := b132) (sz := 1) (enc := enStr) [sBox] (fun _ => rfl) rfl (by unfold maxLen; simp)), show smS [sBox] by decide, show ByteArray.size sBox ≤ 9223372036854775807 by decide⟩) b148 b150 (bx_good (b := b150) (hp.rdLit (b := b150) (sz := 3) (enc := encIt) [bxV b148 [bx0]] (fun _ => rfl) rfl (by unfold maxLen; simp)) (all1 (bx_good (b := b148) (hp.rdLit (b := b148) (sz := 3) (enc := encIt) [bx0] (fun _ => rfl) rfl (by unfold maxLen; simp)) (all1 (bx0_good w))))))) rfl (lt_y (y_callV Tryz.call18 rfl rfl (fun w hp => k_box (some ⟨b150, 0, none⟩) 1 1 w)) rfl (lt_y (y_callV Tryz.call18 rfl rfl (fun w hp => k_box (some ⟨b148, 0, none⟩) 1 1 w)) rfl (lt_y (y_loadN Tryz.isAgg26 Tryz.sizeOf26 rfl) rfl (lt_y (y_move rfl) rfl (lt_y (y_move rfl) rfl (lt_y (y_move rfl) rfl (lt_nil))))))))))))))) ?_
          refine pl_yY 17 rfl rfl rfl rfl rfl (y_callV Tryz.call18 rfl rfl (fun w hp => k_box (some ⟨b160, 0, none⟩) 1 1 w)) rfl rfl rfl (by kernel_rfl) ?_
          refine pl_w1 18 (by kernel_rfl) rfl rfl (pl_fireG rfl rfl rfl rfl rfl rfl (by kernel_rfl) ?_)
          refine oj_yesE rfl rfl rfl rfl ?_
          refine oj_buildSlice (cs := [.string sBox, .slice none 0 0, .slice (some ⟨b160, 0, none⟩) 1 1]) [.string ⟨#[]⟩, .slice none 0 0, .slice none 0 0] Tryz.underlying24 Tryz.sizeOf26 Tryz.zeroValue26 rfl rfl (by kernel_rfl) (by kernel_rfl) rfl (fun b162 => ?_)
          refine oj_nil ?_
          refine ej_pl (lt_w (by kernel_rfl) (lt_yY rfl rfl rfl rfl (y_loadN Tryz.isAgg26 Tryz.sizeOf26 rfl) (lt_yY rfl rfl rfl rfl (y_move rfl) (lt_yY rfl rfl rfl rfl (y_move rfl) (lt_yY rfl rfl rfl rfl (y_move rfl) (lt_yY rfl rfl rfl rfl (y_move rfl) (lt_w (by kernel_rfl) (lt_y (y_neq rfl rfl) rfl (lt_y (y_call Tryz.call13 rfl (fun w hp => kz_x1 b132 (some ⟨b134, 0, none⟩) w (hp.rdLit (b := b134) (sz := 4) (enc := encCl) (bxG b132) (fun _ => rfl) rfl (by unfold maxLen; simp)) (all1 ⟨Rd.nil, (fun t ht => by cases ht), (hp.rdLit (b := b132) (sz := 1) (enc := enStr) [sBox] (fun _ => rfl) rfl (by unfold maxLen; simp)), show smS [sBox] by decide, show ByteArray.size sBox ≤ 9223372036854775807 by decide⟩) b148 b150 (bx_good (b := b150) (hp.rdLit (b := b150) (sz := 3) (enc := encIt) [bxV b148 [bx0]] (fun _ => rfl) rfl (by unfold maxLen; simp)) (all1 (bx_good (b := b148) (hp.rdLit (b := b148) (sz := 3) (enc := encIt) [bx0] (fun _ => rfl) rfl (by unfold maxLen; simp)) (all1 (bx0_good w))))))) rfl (lt_y (y_callV Tryz.call18 rfl rfl (fun w hp => k_box (some ⟨b150, 0, none⟩) 1 1 w)) rfl (lt_y (y_callV Tryz.call18 rfl rfl (fun w hp => k_box (some ⟨b148, 0, none⟩) 1 1 w)) rfl (lt_y (y_loadN Tryz.isAgg26 Tryz.sizeOf26 rfl) rfl (lt_y (y_move rfl) rfl (lt_y (y_move rfl) rfl (lt_y (y_move rfl) rfl (lt_nil)))))))))))))))) ?_
          refine pl_yY 19 rfl rfl rfl rfl rfl (y_callV Tryz.call18 rfl rfl (fun w hp => k_box (some ⟨b162, 0, none⟩) 1 1 w)) rfl rfl rfl (by kernel_rfl) ?_
          refine pl_w1 20 (by kernel_rfl) rfl rfl (pl_fireG rfl rfl rfl rfl rfl rfl (by kernel_rfl) ?_)
          refine oj_yesE rfl rfl rfl rfl ?_
          refine oj_buildSlice (cs := [.string sBox, .slice none 0 0, .slice (some ⟨b162, 0, none⟩) 1 1]) [.string ⟨#[]⟩, .slice none 0 0, .slice none 0 0] Tryz.underlying24 Tryz.sizeOf26 Tryz.zeroValue26 rfl rfl (by kernel_rfl) (by kernel_rfl) rfl (fun b164 => ?_)
          refine oj_nil ?_
          refine ej_pl (lt_w (by kernel_rfl) (lt_yY rfl rfl rfl rfl (y_callV Tryz.call18 rfl rfl (fun w hp => k_box (some ⟨b160, 0, none⟩) 1 1 w)) (lt_yY rfl rfl rfl rfl (y_loadN Tryz.isAgg26 Tryz.sizeOf26 rfl) (lt_yY rfl rfl rfl rfl (y_move rfl) (lt_yY rfl rfl rfl rfl (y_move rfl) (lt_yY rfl rfl rfl rfl (y_move rfl) (lt_yY rfl rfl rfl rfl (y_move rfl) (lt_w (by kernel_rfl) (lt_y (y_neq rfl rfl) rfl (lt_y (y_call Tryz.call13 rfl (fun w hp => kz_x1 b132 (some ⟨b134, 0, none⟩) w (hp.rdLit (b := b134) (sz := 4) (enc := encCl) (bxG b132) (fun _ => rfl) rfl (by unfold maxLen; simp)) (all1 ⟨Rd.nil, (fun t ht => by cases ht), (hp.rdLit (b := b132) (sz := 1) (enc := enStr) [sBox] (fun _ => rfl) rfl (by unfold maxLen; simp)), show smS [sBox] by decide, show ByteArray.size sBox ≤ 9223372036854775807 by decide⟩) b148 b150 (bx_good (b := b150) (hp.rdLit (b := b150) (sz := 3) (enc := encIt) [bxV b148 [bx0]] (fun _ => rfl) rfl (by unfold maxLen; simp)) (all1 (bx_good (b := b148) (hp.rdLit (b := b148) (sz := 3) (enc := encIt) [bx0] (fun _ => rfl) rfl (by unfold maxLen; simp)) (all1 (bx0_good w))))))) rfl (lt_y (y_callV Tryz.call18 rfl rfl (fun w hp => k_box (some ⟨b150, 0, none⟩) 1 1 w)) rfl (lt_y (y_callV Tryz.call18 rfl rfl (fun w hp => k_box (some ⟨b148, 0, none⟩) 1 1 w)) rfl (lt_y (y_loadN Tryz.isAgg26 Tryz.sizeOf26 rfl) rfl (lt_y (y_move rfl) rfl (lt_y (y_move rfl) rfl (lt_y (y_move rfl) rfl (lt_nil))))))))))))))))) ?_
          refine pl_yY 21 rfl rfl rfl rfl rfl (y_callV Tryz.call18 rfl rfl (fun w hp => k_box (some ⟨b164, 0, none⟩) 1 1 w)) rfl rfl rfl (by kernel_rfl) ?_
          refine pl_yY 22 rfl rfl rfl rfl rfl (y_call Tryz.call13 rfl (fun w hp => kz_x2 b132 (some ⟨b134, 0, none⟩) w (hp.rdLit (b := b134) (sz := 4) (enc := encCl) (bxG b132) (fun _ => rfl) rfl (by unfold maxLen; simp)) (all1 ⟨Rd.nil, (fun t ht => by cases ht), (hp.rdLit (b := b132) (sz := 1) (enc := enStr) [sBox] (fun _ => rfl) rfl (by unfold maxLen; simp)), show smS [sBox] by decide, show ByteArray.size sBox ≤ 9223372036854775807 by decide⟩) b160 b162 b164 (bx_good (b := b164) (hp.rdLit (b := b164) (sz := 3) (enc := encIt) [bxV b162 [bxV b160 [bx0]]] (fun _ => rfl) rfl (by unfold maxLen; simp)) (all1 (bx_good (b := b162) (hp.rdLit (b := b162) (sz := 3) (enc := encIt) [bxV b160 [bx0]] (fun _ => rfl) rfl (by unfold maxLen; simp)) (all1 (bx_good (b := b160) (hp.rdLit (b := b160) (sz := 3) (enc := encIt) [bx0] (fun _ => rfl) rfl (by unfold maxLen; simp)) (all1 (bx0_good w))))))))) rfl rfl rfl (by kernel_rfl) ?_
          refine pl_yY 23 rfl rfl rfl rfl rfl (y_neq rfl rfl) rfl rfl rfl (by kernel_rfl) ?_
          refine pl_y 24 rfl (y_pickF rfl rfl rfl) rfl rfl rfl rfl (by kernel_rfl) ?_
          refine pl_y 25 rfl (y_move rfl) rfl rfl rfl rfl (by kernel_rfl) ?_
          refine pl_yY 26 rfl rfl rfl rfl rfl (y_move rfl) rfl rfl rfl (by kernel_rfl) ?_
          refine pl_yY 27 rfl rfl rfl rfl rfl (y_move rfl) rfl rfl rfl (by kernel_rfl) ?_
          refine pl_yY 28 rfl rfl rfl rfl rfl (y_loadN Tryz.isAgg26 Tryz.sizeOf26 rfl) rfl rfl rfl (by kernel_rfl) ?_
          refine pl_yY 29 rfl rfl rfl rfl rfl (y_loadN Tryz.isAgg26 Tryz.sizeOf26 rfl) rfl rfl rfl (by kernel_rfl) ?_
          refine pl_yY 30 rfl rfl rfl rfl rfl (y_loadN Tryz.isAgg26 Tryz.sizeOf26 rfl) rfl rfl rfl (by kernel_rfl) ?_
          refine pl_yY 31 rfl rfl rfl rfl rfl (y_loadN Tryz.isAgg26 Tryz.sizeOf26 rfl) rfl rfl rfl (by kernel_rfl) ?_
          refine pl_yY 32 rfl rfl rfl rfl rfl (y_move rfl) rfl rfl rfl (by kernel_rfl) ?_
          refine pl_yY 33 rfl rfl rfl rfl rfl (y_loadN Tryz.isAgg26 Tryz.sizeOf26 rfl) rfl rfl rfl (by kernel_rfl) ?_
          refine pl_yY 34 rfl rfl rfl rfl rfl (y_loadN Tryz.isAgg26 Tryz.sizeOf26 rfl) rfl rfl rfl (by kernel_rfl) ?_
          refine pl_w1 35 (by kernel_rfl) rfl rfl (pl_fireG rfl rfl rfl rfl rfl rfl (by kernel_rfl) ?_)
          refine oj_yesE rfl rfl rfl rfl ?_
          refine oj_buildSlice (cs := [.string sBox, .slice none 0 0, .slice none 0 0, .string sBox, .slice none 0 0, .slice none 0 0]) [.string ⟨#[]⟩, .slice none 0 0, .slice none 0 0, .string ⟨#[]⟩, .slice none 0 0, .slice none 0 0] Tryz.underlying24 Tryz.sizeOf26 Tryz.zeroValue26 rfl rfl (by kernel_rfl) (by kernel_rfl) rfl (fun b179 => ?_)
          refine oj_nil ?_
          refine ej_pl (lt_w (by kernel_rfl) (lt_w (by kernel_rfl) (lt_yY rfl rfl rfl rfl (y_move rfl) (lt_yY rfl rfl rfl rfl (y_loadN Tryz.isAgg26 Tryz.sizeOf26 rfl) (lt_yY rfl rfl rfl rfl (y_loadN Tryz.isAgg26 Tryz.sizeOf26 rfl) (lt_yY rfl rfl rfl rfl (y_loadN Tryz.isAgg26 Tryz.sizeOf26 rfl) (lt_yY rfl rfl rfl rfl (y_loadN Tryz.isAgg26 Tryz.sizeOf26 rfl) (lt_yY rfl rfl rfl rfl (y_move rfl) (lt_yY rfl rfl rfl rfl (y_move rfl) (lt_w (by kernel_rfl) (lt_y (y_pickF rfl rfl rfl) rfl (lt_yY rfl rfl rfl rfl (y_neq rfl rfl) (lt_yY rfl rfl rfl rfl (y_call Tryz.call13 rfl (fun w hp => kz_x2 b132 (some ⟨b134, 0, none⟩) w (hp.rdLit (b := b134) (sz := 4) (enc := encCl) (bxG b132) (fun _ => rfl) rfl (by unfold maxLen; simp)) (all1 ⟨Rd.nil, (fun t ht => by cases ht), (hp.rdLit (b := b132) (sz := 1) (enc := enStr) [sBox] (fun _ => rfl) rfl (by unfold maxLen; simp)), show smS [sBox] by decide, show ByteArray.size sBox ≤ 9223372036854775807 by decide⟩) b160 b162 b164 (bx_good (b := b164) (hp.rdLit (b := b164) (sz := 3) (enc := encIt) [bxV b162 [bxV b160 [bx0]]] (fun _ => rfl) rfl (by unfold maxLen; simp)) (all1 (bx_good (b := b162) (hp.rdLit (b := b162) (sz := 3) (enc := encIt) [bxV b160 [bx0]] (fun _ => rfl) rfl (by unfold maxLen; simp)) (all1 (bx_good (b := b160) (hp.rdLit (b := b160) (sz := 3) (enc := encIt) [bx0] (fun _ => rfl) rfl (by unfold maxLen; simp)) (all1 (bx0_good w))))))))) (lt_yY rfl rfl rfl rfl (y_callV Tryz.call18 rfl rfl (fun w hp => k_box (some ⟨b164, 0, none⟩) 1 1 w)) (lt_yY rfl rfl rfl rfl (y_callV Tryz.call18 rfl rfl (fun w hp => k_box (some ⟨b162, 0, none⟩) 1 1 w)) (lt_yY rfl rfl rfl rfl (y_callV Tryz.call18 rfl rfl (fun w hp => k_box (some ⟨b160, 0, none⟩) 1 1 w)) (lt_yY rfl rfl rfl rfl (y_loadN Tryz.isAgg26 Tryz.sizeOf26 rfl) (lt_yY rfl rfl rfl rfl (y_move rfl) (lt_yY rfl rfl rfl rfl (y_move rfl) (lt_yY rfl rfl rfl rfl (y_move rfl) (lt_yY rfl rfl rfl rfl (y_move rfl) (lt_y (y_move rfl) rfl (lt_y (y_neq rfl rfl) rfl (lt_y (y_call Tryz.call13 rfl (fun w hp => kz_x1 b132 (some ⟨b134, 0, none⟩) w (hp.rdLit (b := b134) (sz := 4) (enc := encCl) (bxG b132) (fun _ => rfl) rfl (by unfold maxLen; simp)) (all1 ⟨Rd.nil, (fun t ht => by cases ht), (hp.rdLit (b := b132) (sz := 1) (enc := enStr) [sBox] (fun _ => rfl) rfl (by unfold maxLen; simp)), show smS [sBox] by decide, show ByteArray.size sBox ≤ 9223372036854775807 by decide⟩) b148 b150 (bx_good (b := b150) (hp.rdLit (b := b150) (sz := 3) (enc := encIt) [bxV b148 [bx0]] (fun _ => rfl) rfl (by unfold maxLen; simp)) (all1 (bx_good (b := b148) (hp.rdLit (b := b148) (sz := 3) (enc := encIt) [bx0] (fun _ => rfl) rfl (by unfold maxLen; simp)) (all1 (bx0_good w))))))) rfl (lt_y (y_callV Tryz.call18 rfl rfl (fun w hp => k_box (some ⟨b150, 0, none⟩) 1 1 w)) rfl (lt_y (y_callV Tryz.call18 rfl rfl (fun w hp => k_box (some ⟨b148, 0, none⟩) 1 1 w)) rfl (lt_y (y_loadN Tryz.isAgg26 Tryz.sizeOf26 rfl) rfl (lt_y (y_move rfl) rfl (lt_y (y_move rfl) rfl (lt_y (y_move rfl) rfl (lt_nil))))))))))))))))))))))))))))))) ?_
          refine pl_yY 36 rfl rfl rfl rfl rfl (y_callV Tryz.call18 rfl rfl (fun w hp => k_box (some ⟨b179, 0, none⟩) 2 2 w)) rfl rfl rfl (by kernel_rfl) ?_
          refine pl_w1 37 (by kernel_rfl) rfl rfl (pl_fireG rfl rfl rfl rfl rfl rfl (by kernel_rfl) ?_)
          refine oj_yesE rfl rfl rfl rfl ?_
          refine oj_buildSlice (cs := [.string sBox, .slice none 0 0, .slice (some ⟨b142, 0, none⟩) 4 4, .string sBox, .slice none 0 0, .slice (some ⟨b142, 0, none⟩) 4 4, .string sBox, .slice none 0 0, .slice (some ⟨b142, 0, none⟩) 4 4, .string sBox, .slice none 0 0, .slice (some ⟨b142, 0, none⟩) 4 4, .string sBox, .slice none 0 0, .slice (some ⟨b179, 0, none⟩) 2 2]) [.string ⟨#[]⟩, .slice none 0 0, .slice none 0 0, .string ⟨#[]⟩, .slice none 0 0, .slice none 0 0, .string ⟨#[]⟩, .slice none 0 0, .slice none 0 0, .string ⟨#[]⟩, .slice none 0 0, .slice none 0 0, .string ⟨#[]⟩, .slice none 0 0, .slice none 0 0] Tryz.underlying24 Tryz.sizeOf26 Tryz.zeroValue26 rfl rfl (by kernel_rfl) (by kernel_rfl) rfl (fun b181 => ?_)
          refine oj_nil ?_
          refine ej_pl (lt_w (by kernel_rfl) (lt_yY rfl rfl rfl rfl (y_loadN Tryz.isAgg26 Tryz.sizeOf26 rfl) (lt_yY rfl rfl rfl rfl (y_loadN Tryz.isAgg26 Tryz.sizeOf26 rfl) (lt_yY rfl rfl rfl rfl (y_move rfl) (lt_w (by kernel_rfl) (lt_w (by kernel_rfl) (lt_w (by kernel_rfl) (lt_w (by kernel_rfl) (lt_yY rfl rfl rfl rfl (y_move rfl) (lt_yY rfl rfl rfl rfl (y_move rfl) (lt_w (by kernel_rfl) (lt_y (y_pickF rfl rfl rfl) rfl (lt_yY rfl rfl rfl rfl (y_neq rfl rfl) (lt_yY rfl rfl rfl rfl (y_call Tryz.call13 rfl (fun w hp => kz_x2 b132 (some ⟨b134, 0, none⟩) w (hp.rdLit (b := b134) (sz := 4) (enc := encCl) (bxG b132) (fun _ => rfl) rfl (by unfold maxLen; simp)) (all1 ⟨Rd.nil, (fun t ht => by cases ht), (hp.rdLit (b := b132) (sz := 1) (enc := enStr) [sBox] (fun _ => rfl) rfl (by unfold maxLen; simp)), show smS [sBox] by decide, show ByteArray.size sBox ≤ 9223372036854775807 by decide⟩) b160 b162 b164 (bx_good (b := b164) (hp.rdLit (b := b164) (sz := 3) (enc := encIt) [bxV b162 [bxV b160 [bx0]]] (fun _ => rfl) rfl (by unfold maxLen; simp)) (all1 (bx_good (b := b162) (hp.rdLit (b := b162) (sz := 3) (enc := encIt) [bxV b160 [bx0]] (fun _ => rfl) rfl (by unfold maxLen; simp)) (all1 (bx_good (b := b160) (hp.rdLit (b := b160) (sz := 3) (enc := encIt) [bx0] (fun _ => rfl) rfl (by unfold maxLen; simp)) (all1 (bx0_good w))))))))) (lt_yY rfl rfl rfl rfl (y_callV Tryz.call18 rfl rfl (fun w hp => k_box (some ⟨b164, 0, none⟩) 1 1 w)) (lt_yY rfl rfl rfl rfl (y_callV Tryz.call18 rfl rfl (fun w hp => k_box (some ⟨b162, 0, none⟩) 1 1 w)) (lt_yY rfl rfl rfl rfl (y_callV Tryz.call18 rfl rfl (fun w hp => k_box (some ⟨b160, 0, none⟩) 1 1 w)) (lt_yY rfl rfl rfl rfl (y_loadN Tryz.isAgg26 Tryz.sizeOf26 rfl) (lt_yY rfl rfl rfl rfl (y_move rfl) (lt_yY rfl rfl rfl rfl (y_move rfl) (lt_yY rfl rfl rfl rfl (y_move rfl) (lt_yY rfl rfl rfl rfl (y_move rfl) (lt_y (y_move rfl) rfl (lt_y (y_neq rfl rfl) rfl (lt_y (y_call Tryz.call13 rfl (fun w hp => kz_x1 b132 (some ⟨b134, 0, none⟩) w (hp.rdLit (b := b134) (sz := 4) (enc := encCl) (bxG b132) (fun _ => rfl) rfl (by unfold maxLen; simp)) (all1 ⟨Rd.nil, (fun t ht => by cases ht), (hp.rdLit (b := b132) (sz := 1) (enc := enStr) [sBox] (fun _ => rfl) rfl (by unfold maxLen; simp)), show smS [sBox] by decide, show ByteArray.size sBox ≤ 9223372036854775807 by decide⟩) b148 b150 (bx_good (b := b150) (hp.rdLit (b := b150) (sz := 3) (enc := encIt) [bxV b148 [bx0]] (fun _ => rfl) rfl (by unfold maxLen; simp)) (all1 (bx_good (b := b148) (hp.rdLit (b := b148) (sz := 3) (enc := encIt) [bx0] (fun _ => rfl) rfl (by unfold maxLen; simp)) (all1 (bx0_good w))))))) rfl (lt_y (y_callV Tryz.call18 rfl rfl (fun w hp => k_box (some ⟨b150, 0, none⟩) 1 1 w)) rfl (lt_y (y_callV Tryz.call18 rfl rfl (fun w hp => k_box (some ⟨b148, 0, none⟩) 1 1 w)) rfl (lt_y (y_loadN Tryz.isAgg26 Tryz.sizeOf26 rfl) rfl (lt_y (y_move rfl) rfl (lt_y (y_move rfl) rfl (lt_y (y_move rfl) rfl (lt_nil)))))))))))))))))))))))))))))))) ?_
          refine pl_yY 38 rfl rfl rfl rfl rfl (y_callV Tryz.call18 rfl rfl (fun w hp => k_box (some ⟨b181, 0, none⟩) 5 5 w)) rfl rfl rfl (by kernel_rfl) ?_
          refine pl_yY 39 rfl rfl rfl rfl rfl (y_call Tryz.call13 rfl (fun w hp => kz_x3 b132 (some ⟨b134, 0, none⟩) w (hp.rdLit (b := b134) (sz := 4) (enc := encCl) (bxG b132) (fun _ => rfl) rfl (by unfold maxLen; simp)) (all1 ⟨Rd.nil, (fun t ht => by cases ht), (hp.rdLit (b := b132) (sz := 1) (enc := enStr) [sBox] (fun _ => rfl) rfl (by unfold maxLen; simp)), show smS [sBox] by decide, show ByteArray.size sBox ≤ 9223372036854775807 by decide⟩) b142 b179 b181 (bx_good (b := b181) (hp.rdLit (b := b181) (sz := 3) (enc := encIt) [bx4 b142, bx4 b142, bx4 b142, bx4 b142, bxV b179 [bx0, bx0]] (fun _ => rfl) rfl (by unfold maxLen; simp)) (allC (bx_good (b := b142) (hp.rdLit (b := b142) (sz := 3) (enc := encIt) [bx0, bx0, bx0, bx0] (fun _ => rfl) rfl (by unfold maxLen; simp)) (allC (bx0_good w) (allC (bx0_good w) (allC (bx0_good w) (all1 (bx0_good w)))))) (allC (bx_good (b := b142) (hp.rdLit (b := b142) (sz := 3) (enc := encIt) [bx0, bx0, bx0, bx0] (fun _ => rfl) rfl (by unfold maxLen; simp)) (allC (bx0_good w) (allC (bx0_good w) (allC (bx0_good w) (all1 (bx0_good w)))))) (allC (bx_good (b := b142) (hp.rdLit (b := b142) (sz := 3) (enc := encIt) [bx0, bx0, bx0, bx0] (fun _ => rfl) rfl (by unfold maxLen; simp)) (allC (bx0_good w) (allC (bx0_good w) (allC (bx0_good w) (all1 (bx0_good w)))))) (allC (bx_good (b := b142) (hp.rdLit (b := b142) (sz := 3) (enc := encIt) [bx0, bx0, bx0, bx0] (fun _ => rfl) rfl (by unfold maxLen; simp)) (allC (bx0_good w) (allC (bx0_good w) (allC (bx0_good w) (all1 (bx0_good w)))))) (all1 (bx_good (b := b179) (hp.rdLit (b := b179) (sz := 3) (enc := encIt) [bx0, bx0] (fun _ => rfl) rfl (by unfold maxLen; simp)) (allC (bx0_good w) (all1 (bx0_good w)))))))))))) rfl rfl rfl (by kernel_rfl) ?_
          refine pl_yY 40 rfl rfl rfl rfl rfl (y_neq rfl rfl) rfl rfl rfl (by kernel_rfl) ?_
          refine pl_y 41 rfl (y_pickF rfl rfl rfl) rfl rfl rfl rfl (by kernel_rfl) ?_
          refine pl_y 42 rfl (y_move rfl) rfl rfl rfl rfl (by kernel_rfl) ?_
          refine pl_yY 43 rfl rfl rfl rfl rfl (y_move rfl) rfl rfl rfl (by kernel_rfl) ?_
          refine pl_yY 44 rfl rfl rfl rfl rfl (y_move rfl) rfl rfl rfl (by kernel_rfl) ?_
          refine pl_yY 45 rfl rfl rfl rfl rfl (y_loadN Tryz.isAgg26 Tryz.sizeOf26 rfl) rfl rfl rfl (by kernel_rfl) ?_
          refine pl_yY 46 rfl rfl rfl rfl rfl (y_loadN Tryz.isAgg26 Tryz.sizeOf26 rfl) rfl rfl rfl (by kernel_rfl) ?_
          refine pl_yY 47 rfl rfl rfl rfl rfl (y_loadN Tryz.isAgg26 Tryz.sizeOf26 rfl) rfl rfl rfl (by kernel_rfl) ?_
          refine pl_yY 48 rfl rfl rfl rfl rfl (y_loadN Tryz.isAgg26 Tryz.sizeOf26 rfl) rfl rfl rfl (by kernel_rfl) ?_
          refine pl_yY 49 rfl rfl rfl rfl rfl (y_move rfl) rfl rfl rfl (by kernel_rfl) ?_
          refine pl_yY 50 rfl rfl rfl rfl rfl (y_loadN Tryz.isAgg26 Tryz.sizeOf26 rfl) rfl rfl rfl (by kernel_rfl) ?_
          refine pl_yY 51 rfl rfl rfl rfl rfl (y_loadN Tryz.isAgg26 Tryz.sizeOf26 rfl) rfl rfl rfl (by kernel_rfl) ?_
          refine pl_yY 52 rfl rfl rfl rfl rfl (y_loadN Tryz.isAgg26 Tryz.sizeOf26 rfl) rfl rfl rfl (by kernel_rfl) ?_
          refine pl_w1 53 (by kernel_rfl) rfl rfl (pl_fireG rfl rfl rfl rfl rfl rfl (by kernel_rfl) ?_)
          refine oj_yesE rfl rfl rfl rfl ?_
          refine oj_buildSlice (cs := [.string sBox, .slice none 0 0, .slice none 0 0, .string sBox, .slice none 0 0, .slice none 0 0, .string sBox, .slice none 0 0, .slice none 0 0]) [.string ⟨#[]⟩, .slice none 0 0, .slice none 0 0, .string ⟨#[]⟩, .slice none 0 0, .slice none 0 0, .string ⟨#[]⟩, .slice none 0 0, .slice none 0 0] Tryz.underlying24 Tryz.sizeOf26 Tryz.zeroValue26 rfl rfl (by kernel_rfl) (by kernel_rfl) rfl (fun b197 => ?_)
          refine oj_nil ?_
          refine ej_pl (lt_w (by kernel_rfl) (lt_w (by kernel_rfl) (lt_w (by kernel_rfl) (lt_yY rfl rfl rfl rfl (y_move rfl) (lt_yY rfl rfl rfl rfl (y_loadN Tryz.isAgg26 Tryz.sizeOf26 rfl) (lt_yY rfl rfl rfl rfl (y_loadN Tryz.isAgg26 Tryz.sizeOf26 rfl) (lt_yY rfl rfl rfl rfl (y_loadN Tryz.isAgg26 Tryz.sizeOf26 rfl) (lt_yY rfl rfl rfl rfl (y_loadN Tryz.isAgg26 Tryz.sizeOf26 rfl) (lt_yY rfl rfl rfl rfl (y_move rfl) (lt_yY rfl rfl rfl rfl (y_move rfl) (lt_w (by kernel_rfl) (lt_y (y_pickF rfl rfl rfl) rfl (lt_yY rfl rfl rfl rfl (y_neq rfl rfl) (lt_yY rfl rfl rfl rfl (y_call Tryz.call13 rfl (fun w hp => kz_x3 b132 (some ⟨b134, 0, none⟩) w (hp.rdLit (b := b134) (sz := 4) (enc := encCl) (bxG b132) (fun _ => rfl) rfl (by unfold maxLen; simp)) (all1 ⟨Rd.nil, (fun t ht => by cases ht), (hp.rdLit (b := b132) (sz := 1) (enc := enStr) [sBox] (fun _ => rfl) rfl (by unfold maxLen; simp)), show smS [sBox] by decide, show ByteArray.size sBox ≤ 9223372036854775807 by decide⟩) b142 b179 b181 (bx_good (b := b181) (hp.rdLit (b := b181) (sz := 3) (enc := encIt) [bx4 b142, bx4 b142, bx4 b142, bx4 b142, bxV b179 [bx0, bx0]] (fun _ => rfl) rfl (by unfold maxLen; simp)) (allC (bx_good (b := b142) (hp.rdLit (b := b142) (sz := 3) (enc := encIt) [bx0, bx0, bx0, bx0] (fun _ => rfl) rfl (by unfold maxLen; simp)) (allC (bx0_good w) (allC (bx0_good w) (allC (bx0_good w) (all1 (bx0_good w)))))) (allC (bx_good (b := b142) (hp.rdLit (b := b142) (sz := 3) (enc := encIt) [bx0, bx0, bx0, bx0] (fun _ => rfl) rfl (by unfold maxLen; simp)) (allC (bx0_good w) (allC (bx0_good w) (allC (bx0_good w) (all1 (bx0_good w)))))) (allC (bx_good (b := b142) (hp.rdLit (b := b142) (sz := 3) (enc := encIt) [bx0, bx0, bx0, bx0] (fun _ => rfl) rfl (by unfold maxLen; simp)) (allC (bx0_good w) (allC (bx0_good w) (allC (bx0_good w) (all1 (bx0_good w)))))) (allC (bx_good (b := b142) (hp.rdLit (b := b142) (sz := 3) (enc := encIt) [bx0, bx0, bx0, bx0] (fun _ => rfl) rfl (by unfold maxLen; simp)) (allC (bx0_good w) (allC (bx0_good w) (allC (bx0_good w) (all1 (bx0_good w)))))) (all1 (bx_good (b := b179) (hp.rdLit (b := b179) (sz := 3) (enc := encIt) [bx0, bx0] (fun _ => rfl) rfl (by unfold maxLen; simp)) (allC (bx0_good w) (all1 (bx0_good w)))))))))))) (lt_yY rfl rfl rfl rfl (y_callV Tryz.call18 rfl rfl (fun w hp => k_box (some ⟨b181, 0, none⟩) 5 5 w)) (lt_yY rfl rfl rfl rfl (y_callV Tryz.call18 rfl rfl (fun w hp => k_box (some ⟨b179, 0, none⟩) 2 2 w)) (lt_yY rfl rfl rfl rfl (y_loadN Tryz.isAgg26 Tryz.sizeOf26 rfl) (lt_yY rfl rfl rfl rfl (y_loadN Tryz.isAgg26 Tryz.sizeOf26 rfl) (lt_yY rfl rfl rfl rfl (y_move rfl) (lt_yY rfl rfl rfl rfl (y_loadN Tryz.isAgg26 Tryz.sizeOf26 rfl) (lt_yY rfl rfl rfl rfl (y_loadN Tryz.isAgg26 Tryz.sizeOf26 rfl) (lt_yY rfl rfl rfl rfl (y_loadN Tryz.isAgg26 Tryz.sizeOf26 rfl) (lt_yY rfl rfl rfl rfl (y_loadN Tryz.isAgg26 Tryz.sizeOf26 rfl) (lt_yY rfl rfl rfl rfl (y_move rfl) (lt_yY rfl rfl rfl rfl (y_move rfl) (lt_y (y_move rfl) rfl (lt_y (y_pickF rfl rfl rfl) rfl (lt_yY rfl rfl rfl rfl (y_neq rfl rfl) (lt_yY rfl rfl rfl rfl (y_call Tryz.call13 rfl (fun w hp => kz_x2 b132 (some ⟨b134, 0, none⟩) w (hp.rdLit (b := b134) (sz := 4) (enc := encCl) (bxG b132) (fun _ => rfl) rfl (by unfold maxLen; simp)) (all1 ⟨Rd.nil, (fun t ht => by cases ht), (hp.rdLit (b := b132) (sz := 1) (enc := enStr) [sBox] (fun _ => rfl) rfl (by unfold maxLen; simp)), show smS [sBox] by decide, show ByteArray.size sBox ≤ 9223372036854775807 by decide⟩) b160 b162 b164 (bx_good (b := b164) (hp.rdLit (b := b164) (sz := 3) (enc := encIt) [bxV b162 [bxV b160 [bx0]]] (fun _ => rfl) rfl (by unfold maxLen; simp)) (all1 (bx_good (b := b162) (hp.rdLit (b := b162) (sz := 3) (enc := encIt) [bxV b160 [bx0]] (fun _ => rfl) rfl (by unfold maxLen; simp)) (all1 (bx_good (b := b160) (hp.rdLit (b := b160) (sz := 3) (enc := encIt) [bx0] (fun _ => rfl) rfl (by unfold maxLen; simp)) (all1 (bx0_good w))))))))) (lt_yY rfl rfl rfl rfl (y_callV Tryz.call18 rfl rfl (fun w hp => k_box (some ⟨b164, 0, none⟩) 1 1 w)) (lt_yY rfl rfl rfl rfl (y_callV Tryz.call18 rfl rfl (fun w hp => k_box (some ⟨b162, 0, none⟩) 1 1 w)) (lt_yY rfl rfl rfl rfl (y_callV Tryz.call18 rfl rfl (fun w hp => k_box (some ⟨b160, 0, none⟩) 1 1 w)) (lt_yY rfl rfl rfl rfl (y_loadN Tryz.isAgg26 Tryz.sizeOf26 rfl) (lt_yY rfl rfl rfl rfl (y_move rfl) (lt_yY rfl rfl rfl rfl (y_move rfl) (lt_yY rfl rfl rfl rfl (y_move rfl) (lt_yY rfl rfl rfl rfl (y_move rfl) (lt_y (y_move rfl) rfl (lt_y (y_neq rfl rfl) rfl (lt_y (y_call Tryz.call13 rfl (fun w hp => kz_x1 b132 (some ⟨b134, 0, none⟩) w (hp.rdLit (b := b134) (sz := 4) (enc := encCl) (bxG b132) (fun _ => rfl) rfl (by unfold maxLen; simp)) (all1 ⟨Rd.nil, (fun t ht => by cases ht), (hp.rdLit (b := b132) (sz := 1) (enc := enStr) [sBox] (fun _ => rfl) rfl (by unfold maxLen; simp)), show smS [sBox] by decide, show ByteArray.size sBox ≤ 9223372036854775807 by decide⟩) b148 b150 (bx_good (b := b150) (hp.rdLit (b := b150) (sz := 3) (enc := encIt) [bxV b148 [bx0]] (fun _ => rfl) rfl (by unfold maxLen; simp)) (all1 (bx_good (b := b148) (hp.rdLit (b := b148) (sz := 3) (enc := encIt) [bx0] (fun _ => rfl) rfl (by unfold maxLen; simp)) (all1 (bx0_good w))))))) rfl (lt_y (y_callV Tryz.call18 rfl rfl (fun w hp => k_box (some ⟨b150, 0, none⟩) 1 1 w)) rfl (lt_y (y_callV Tryz.call18 rfl rfl (fun w hp => k_box (some ⟨b148, 0, none⟩) 1 1 w)) rfl (lt_y (y_loadN Tryz.isAgg26 Tryz.sizeOf26 rfl) rfl (lt_y (y_move rfl) rfl (lt_y (y_move rfl) rfl (lt_y (y_move rfl) rfl (lt_nil))))))))))))))))))))))))))))))))))))))))))))))) ?_
          refine pl_yY 54 rfl rfl rfl rfl rfl (y_callV Tryz.call18 rfl rfl (fun w hp => k_box (some ⟨b197, 0, none⟩) 3 3 w)) rfl rfl rfl (by kernel_rfl) ?_
          refine pl_w1 55 (by kernel_rfl) rfl rfl (pl_fireG rfl rfl rfl rfl rfl rfl (by kernel_rfl) ?_)
          refine oj_yesE rfl rfl rfl rfl ?_
          refine oj_buildSlice (cs := [.string sBox, .slice none 0 0, .slice (some ⟨b142, 0, none⟩) 4 4, .string sBox, .slice none 0 0, .slice (some ⟨b142, 0, none⟩) 4 4, .string sBox, .slice none 0 0, .slice (some ⟨b142, 0, none⟩) 4 4, .string sBox, .slice none 0 0, .slice (some ⟨b142, 0, none⟩) 4 4, .string sBox, .slice none 0 0, .slice (some ⟨b197, 0, none⟩) 3 3]) [.string ⟨#[]⟩, .slice none 0 0, .slice none 0 0, .string ⟨#[]⟩, .slice none 0 0, .slice none 0 0, .string ⟨#[]⟩, .slice none 0 0, .slice none 0 0, .string ⟨#[]⟩, .slice none 0 0, .slice none 0 0, .string ⟨#[]⟩, .slice none 0 0, .slice none 0 0] Tryz.underlying24 Tryz.sizeOf26 Tryz.zeroValue26 rfl rfl (by kernel_rfl) (by kernel_rfl) rfl (fun b199 => ?_)
          refine oj_nil ?_
          refine ej_pl (lt_w (by kernel_rfl) (lt_yY rfl rfl rfl rfl (y_loadN Tryz.isAgg26 Tryz.sizeOf26 rfl) (lt_yY rfl rfl rfl rfl (y_loadN Tryz.isAgg26 Tryz.sizeOf26 rfl) (lt_yY rfl rfl rfl rfl (y_loadN Tryz.isAgg26 Tryz.sizeOf26 rfl) (lt_yY rfl rfl rfl rfl (y_move rfl) (lt_w (by kernel_rfl) (lt_w (by kernel_rfl) (lt_w (by kernel_rfl) (lt_w (by kernel_rfl) (lt_yY rfl rfl rfl rfl (y_move rfl) (lt_yY rfl rfl rfl rfl (y_move rfl) (lt_w (by kernel_rfl) (lt_y (y_pickF rfl rfl rfl) rfl (lt_yY rfl rfl rfl rfl (y_neq rfl rfl) (lt_yY rfl rfl rfl rfl (y_call Tryz.call13 rfl (fun w hp => kz_x3 b132 (some ⟨b134, 0, none⟩) w (hp.rdLit (b := b134) (sz := 4) (enc := encCl) (bxG b132) (fun _ => rfl) rfl (by unfold maxLen; simp)) (all1 ⟨Rd.nil, (fun t ht => by cases ht), (hp.rdLit (b := b132) (sz := 1) (enc := enStr) [sBox] (fun _ => rfl) rfl (by unfold maxLen; simp)), show smS [sBox] by decide, show ByteArray.size sBox ≤ 9223372036854775807 by decide⟩) b142 b179 b181 (bx_good (b := b181) (hp.rdLit (b := b181) (sz := 3) (enc := encIt) [bx4 b142, bx4 b142, bx4 b142, bx4 b142, bxV b179 [bx0, bx0]] (fun _ => rfl) rfl (by unfold maxLen; simp)) (allC (bx_good (b := b142) (hp.rdLit (b := b142) (sz := 3) (enc := encIt) [bx0, bx0, bx0, bx0] (fun _ => rfl) rfl (by unfold maxLen; simp)) (allC (bx0_good w) (allC (bx0_good w) (allC (bx0_good w) (all1 (bx0_good w)))))) (allC (bx_good (b := b142) (hp.rdLit (b := b142) (sz := 3) (enc := encIt) [bx0, bx0, bx0, bx0] (fun _ => rfl) rfl (by unfold maxLen; simp)) (allC (bx0_good w) (allC (bx0_good w) (allC (bx0_good w) (all1 (bx0_good w)))))) (allC (bx_good (b := b142) (hp.rdLit (b := b142) (sz := 3) (enc := encIt) [bx0, bx0, bx0, bx0] (fun _ => rfl) rfl (by unfold maxLen; simp)) (allC (bx0_good w) (allC (bx0_good w) (allC (bx0_good w) (all1 (bx0_good w)))))) (allC (bx_good (b := b142) (hp.rdLit (b := b142) (sz := 3) (enc := encIt) [bx0, bx0, bx0, bx0] (fun _ => rfl) rfl (by unfold maxLen; simp)) (allC (bx0_good w) (allC (bx0_good w) (allC (bx0_good w) (all1 (bx0_good w)))))) (all1 (bx_good (b := b179) (hp.rdLit (b := b179) (sz := 3) (enc := encIt) [bx0, bx0] (fun _ => rfl) rfl (by unfold maxLen; simp)) (allC (bx0_good w) (all1 (bx0_good w)))))))))))) (lt_yY rfl rfl rfl rfl (y_callV Tryz.call18 rfl rfl (fun w hp => k_box (some ⟨b181, 0, none⟩) 5 5 w)) (lt_yY rfl rfl rfl rfl (y_callV Tryz.call18 rfl rfl (fun w hp => k_box (some ⟨b179, 0, none⟩) 2 2 w)) (lt_yY rfl rfl rfl rfl (y_loadN Tryz.isAgg26 Tryz.sizeOf26 rfl) (lt_yY rfl rfl rfl rfl (y_loadN Tryz.isAgg26 Tryz.sizeOf26 rfl) (lt_yY rfl rfl rfl rfl (y_move rfl) (lt_yY rfl rfl rfl rfl (y_loadN Tryz.isAgg26 Tryz.sizeOf26 rfl) (lt_yY rfl rfl rfl rfl (y_loadN Tryz.isAgg26 Tryz.sizeOf26 rfl) (lt_yY rfl rfl rfl rfl (y_loadN Tryz.isAgg26 Tryz.sizeOf26 rfl) (lt_yY rfl rfl rfl rfl (y_loadN Tryz.isAgg26 Tryz.sizeOf26 rfl) (lt_yY rfl rfl rfl rfl (y_move rfl) (lt_yY rfl rfl rfl rfl (y_move rfl) (lt_y (y_move rfl) rfl (lt_y (y_pickF rfl rfl rfl) rfl (lt_yY rfl rfl rfl rfl (y_neq rfl rfl) (lt_yY rfl rfl rfl rfl (y_call Tryz.call13 rfl (fun w hp => kz_x2 b132 (some ⟨b134, 0, none⟩) w (hp.rdLit (b := b134) (sz := 4) (enc := encCl) (bxG b132) (fun _ => rfl) rfl (by unfold maxLen; simp)) (all1 ⟨Rd.nil, (fun t ht => by cases ht), (hp.rdLit (b := b132) (sz := 1) (enc := enStr) [sBox] (fun _ => rfl) rfl (by unfold maxLen; simp)), show smS [sBox] by decide, show ByteArray.size sBox ≤ 9223372036854775807 by decide⟩) b160 b162 b164 (bx_good (b := b164) (hp.rdLit (b := b164) (sz := 3) (enc := encIt) [bxV b162 [bxV b160 [bx0]]] (fun _ => rfl) rfl (by unfold maxLen; simp)) (all1 (bx_good (b := b162) (hp.rdLit (b := b162) (sz := 3) (enc := encIt) [bxV b160 [bx0]] (fun _ => rfl) rfl (by unfold maxLen; simp)) (all1 (bx_good (b := b160) (hp.rdLit (b := b160) (sz := 3) (enc := encIt) [bx0] (fun _ => rfl) rfl (by unfold maxLen; simp)) (all1 (bx0_good w))))))))) (lt_yY rfl rfl rfl rfl (y_callV Tryz.call18 rfl rfl (fun w hp => k_box (some ⟨b164, 0, none⟩) 1 1 w)) (lt_yY rfl rfl rfl rfl (y_callV Tryz.call18 rfl rfl (fun w hp => k_box (some ⟨b162, 0, none⟩) 1 1 w)) (lt_yY rfl rfl rfl rfl (y_callV Tryz.call18 rfl rfl (fun w hp => k_box (some ⟨b160, 0, none⟩) 1 1 w)) (lt_yY rfl rfl rfl rfl (y_loadN Tryz.isAgg26 Tryz.sizeOf26 rfl) (lt_yY rfl rfl rfl rfl (y_move rfl) (lt_yY rfl rfl rfl rfl (y_move rfl) (lt_yY rfl rfl rfl rfl (y_move rfl) (lt_yY rfl rfl rfl rfl (y_move rfl) (lt_y (y_move rfl) rfl (lt_y (y_neq rfl rfl) rfl (lt_y (y_call Tryz.call13 rfl (fun w hp => kz_x1 b132 (some ⟨b134, 0, none⟩) w (hp.rdLit (b := b134) (sz := 4) (enc := encCl) (bxG b132) (fun _ => rfl) rfl (by unfold maxLen; simp)) (all1 ⟨Rd.nil, (fun t ht => by cases ht), (hp.rdLit (b := b132) (sz := 1) (enc := enStr) [sBox] (fun _ => rfl) rfl (by unfold maxLen; simp)), show smS [sBox] by decide, show ByteArray.size sBox ≤ 9223372036854775807 by decide⟩) b148 b150 (bx_good (b := b150) (hp.rdLit (b := b150) (sz := 3) (enc := encIt) [bxV b148 [bx0]] (fun _ => rfl) rfl (by unfold maxLen; simp)) (all1 (bx_good (b := b148) (hp.rdLit (b := b148) (sz := 3) (enc := encIt) [bx0] (fun _ => rfl) rfl (by unfold maxLen; simp)) (all1 (bx0_good w))))))) rfl (lt_y (y_callV Tryz.call18 rfl rfl (fun w hp => k_box (some ⟨b150, 0, none⟩) 1 1 w)) rfl (lt_y (y_callV Tryz.call18 rfl rfl (fun w hp => k_box (some ⟨b148, 0, none⟩) 1 1 w)) rfl (lt_y (y_loadN Tryz.isAgg26 Tryz.sizeOf26 rfl) rfl (lt_y (y_move rfl) rfl (lt_y (y_move rfl) rfl (lt_y (y_move rfl) rfl (lt_nil)))))))))))))))))))))))))))))))))))))))))))))))) ?_
          refine pl_yY 56 rfl rfl rfl rfl rfl (y_callV Tryz.call18 rfl rfl (fun w hp => k_box (some ⟨b199, 0, none⟩) 5 5 w)) rfl rfl rfl (by kernel_rfl) ?_
          refine pl_yY 57 rfl rfl rfl rfl rfl (y_call Tryz.call13 rfl (fun w hp => kz_x4 b132 (some ⟨b134, 0, none⟩) w (hp.rdLit (b := b134) (sz := 4) (enc := encCl) (bxG b132) (fun _ => rfl) rfl (by unfold maxLen; simp)) (all1 ⟨Rd.nil, (fun t ht => by cases ht), (hp.rdLit (b := b132) (sz := 1) (enc := enStr) [sBox] (fun _ => rfl) rfl (by unfold maxLen; simp)), show smS [sBox] by decide, show ByteArray.size sBox ≤ 9223372036854775807 by decide⟩) b142 b197 b199 (bx_good (b := b199) (hp.rdLit (b := b199) (sz := 3) (enc := encIt) [bx4 b142, bx4 b142, bx4 b142, bx4 b142, bxV b197 [bx0, bx0, bx0]] (fun _ => rfl) rfl (by unfold maxLen; simp)) (allC (bx_good (b := b142) (hp.rdLit (b := b142) (sz := 3) (enc := encIt) [bx0, bx0, bx0, bx0] (fun _ => rfl) rfl (by unfold maxLen; simp)) (allC (bx0_good w) (allC (bx0_good w) (allC (bx0_good w) (all1 (bx0_good w)))))) (allC (bx_good (b := b142) (hp.rdLit (b := b142) (sz := 3) (enc := encIt) [bx0, bx0, bx0, bx0] (fun _ => rfl) rfl (by unfold maxLen; simp)) (allC (bx0_good w) (allC (bx0_good w) (allC (bx0_good w) (all1 (bx0_good w)))))) (allC (bx_good (b := b142) (hp.rdLit (b := b142) (sz := 3) (enc := encIt) [bx0, bx0, bx0, bx0] (fun _ => rfl) rfl (by unfold maxLen; simp)) (allC (bx0_good w) (allC (bx0_good w) (allC (bx0_good w) (all1 (bx0_good w)))))) (allC (bx_good (b := b142) (hp.rdLit (b := b142) (sz := 3) (enc := encIt) [bx0, bx0, bx0, bx0] (fun _ => rfl) rfl (by unfold maxLen; simp)) (allC (bx0_good w) (allC (bx0_good w) (allC (bx0_good w) (all1 (bx0_good w)))))) (all1 (bx_good (b := b197) (hp.rdLit (b := b197) (sz := 3) (enc := encIt) [bx0, bx0, bx0] (fun _ => rfl) rfl (by unfold maxLen; simp)) (allC (bx0_good w) (allC (bx0_good w) (all1 (bx0_good w))))))))))))) rfl rfl rfl (by kernel_rfl) ?_
          refine pl_yY 58 rfl rfl rfl rfl rfl (y_neq rfl rfl) rfl rfl rfl (by kernel_rfl) ?_
          refine pl_y 59 rfl (y_pickF rfl rfl rfl) rfl rfl rfl rfl (by kernel_rfl) ?_
          refine pl_end (by kernel_rfl) ?_
          refine ej_th ?_
          refine cj_condF rfl (by decide) ?_
          refine cj_skip ?_
          exact ej_ct () trivial trivial
        · rintro - -
          dsimp only [List.cons_append, List.nil_append]
          refine cj_cuti (X := Unit) [] trivial (fun _ => True) (fun _ => []) (fun _ => []) (fun _ => [gl 0 [.int .i64 mx]]) ?_ ?_
          · refine cj_wk [] [] [gl 0 [.int .i64 mx]] trivial ?_
            refine cj_seq (cj_region ?_)
            refine oj_buildSlice (cs := [.string ⟨#[]⟩, .string ⟨#[114, 105, 110, 103]⟩, .string ⟨#[114, 105, 110, 103, 32, 40, 32, 103, 101, 109, 32, 41]⟩, .string ⟨#[114, 105, 110, 103, 32, 109, 101, 116, 97, 108, 61, 103, 111, 108, 100, 32, 40, 41]⟩, .string ⟨#[114, 105, 110, 103, 32, 109, 101, 116, 97, 108, 61, 103, 111, 108, 100, 32, 40, 32, 41]⟩, .string ⟨#[114, 105, 110, 103, 32, 109, 101, 116, 97, 108, 61, 103, 111, 108, 100, 32, 40, 32, 103, 101, 109]⟩, .string ⟨#[114, 105, 110, 103, 32, 109, 101, 116, 97, 108, 61, 103, 111, 108, 100, 32, 40, 32, 103, 101, 109, 32, 59, 32, 41]⟩, .string ⟨#[114, 105, 110, 103, 32, 32, 109, 101, 116, 97, 108, 61, 103, 111, 108, 100]⟩, .string ⟨#[114, 105, 110, 103, 32, 115, 105, 122, 101, 61, 115, 109, 97, 108, 108, 32, 109, 101, 116, 97, 108, 61, 103, 111, 108, 100]⟩, .string ⟨#[114, 105, 110, 103, 32, 109, 101, 116, 97, 108, 61, 103, 111, 108, 100, 32, 109, 101, 116, 97, 108, 61, 103, 111, 108, 100]⟩, .string ⟨#[114, 105, 110, 103, 32, 109, 101, 116, 97, 108, 61, 103, 111, 108, 100, 32, 40, 32, 103, 101, 109, 32, 41, 32]⟩]) [.string ⟨#[]⟩, .string ⟨#[]⟩, .string ⟨#[]⟩, .string ⟨#[]⟩, .string ⟨#[]⟩, .string ⟨#[]⟩, .string ⟨#[]⟩, .string ⟨#[]⟩, .string ⟨#[]⟩, .string ⟨#[]⟩, .string ⟨#[]⟩] Tryz.underlying23 Tryz.sizeOf9 Tryz.zeroValue9 rfl rfl (by kernel_rfl) (by kernel_rfl) rfl (fun b204 => ?_)
            refine oj_step (y_lenA Tryz.underlying23 rfl) rfl rfl rfl ?_
            refine oj_step (y_move rfl) rfl rfl rfl ?_
            refine oj_nil ?_
            refine ej_th (cj_block ?_)
            refine cj_lpic (X := Nat) [(204, _), (205, _)] (fun i => i ≤ 11) (fun i => [(206, .int .i64 (i : Nat))]) (fun i => 11 - i) 0 (Nat.zero_le _) ⟨rfl, rfl, rfl, trivial⟩ ?_
            rintro i hi
            dsimp only [List.cons_append, List.nil_append]
            refine cj_seq ?_
            refine cj_regionG (gj_step (y_lss rfl rfl) rfl rfl rfl (gj_nil ?_))
            refine ej_th (cj_seq ?_)
            refine cj_cond rfl (fun h207 => ?_) (fun h207 => ?_)
            · have h207b := h207
              try simp only [sxb] at h207
              obtain ⟨s, hs⟩ : ∃ s, fsL[i]? = some s := ⟨_, List.getElem?_eq_getElem (show i < 11 by omega)⟩
              have hsm := List.mem_of_getElem? hs
              have hss : s.size ≤ 40 := by
                have hs2 := hsm
                simp only [List.mem_cons, List.mem_nil_iff, or_false] at hs2
                rcases hs2 with rfl | rfl | rfl | rfl | rfl | rfl | rfl | rfl | rfl | rfl | rfl <;> decide
              refine cj_skip (ej_th (cj_seq (cj_block (cj_seq ?_))))
              refine cj_regionG (gj_step (y_ixR (reads_lit (sz := 1) (enc := enStr) fsL (fun _ => rfl) rfl) Tryz.underlying23 Tryz.sizeOf9 rfl rfl (show (0 : Int) ≤ (i : Nat) ∧ ((i : Nat) : Int) < 11 by omega)) rfl rfl rfl (gj_step (y_ld0 (reads_lit (sz := 1) (enc := enStr) fsL (fun _ => rfl) rfl) Tryz.isAgg9 rfl hs rfl) rfl rfl rfl (gj_step (y_assign rfl) rfl rfl rfl (gj_nil ?_))))
              refine ej_th (cj_seq (cj_region ?_))
              refine oj_call (X := GrA × Nat × Nat) (fun z => .slice (some ⟨z.1.g12, 0, none⟩) 2 2) (fun _ => []) (fun z => [clF (fun i => z.2.1 ≤ i ∧ i < z.2.2) (at0 z.1.g12) (gramV z.1)]) Tryz.call17 rfl (fun w hp => k_grammar w) rfl ?_
              rintro ⟨a211, n211, m211⟩
              dsimp only [List.nil_append, List.cons_append]
              refine oj_step (y_move rfl) rfl rfl rfl ?_
              refine oj_call (X := { z : ItemV × Int × Nat × Nat // PrsR (gramV a211) s z.1 z.2.1 }) (fun z => .tuple #[evI z.1.1, .int .i64 z.1.2.1]) (fun _ => []) (fun z => [itF (fun i => z.1.2.2.1 ≤ i ∧ i < z.1.2.2.2) [z.1.1]]) Tryz.call8 rfl (fun w1 hp => (k_ParseS (gramV a211) (at0 a211.g12) 2 s mx w1 (hp_cl hp (fun i => n211 ≤ i ∧ i < m211) (at0 a211.g12) (gramV a211)).1 (hp_cl hp (fun i => n211 ≤ i ∧ i < m211) (at0 a211.g12) (gramV a211)).2 (by omega) hp.glo).mono fun e w2 ⟨z, E2, he, hg, hz, hG⟩ => ⟨⟨(z, E2, w1.heap.size, w2.heap.size), hz⟩, he, hg, by simp, by simp, fun f hf => by
                rw [List.mem_singleton.1 hf]
                exact ⟨fun z hz => by rw [List.mem_singleton.1 hz]; exact hG, fun i hi => ⟨hi.1, hi.2, by simp⟩⟩⟩) rfl ?_
              rintro ⟨⟨y, E, n1, n2⟩, hy⟩
              dsimp only [List.cons_append, List.nil_append] at hy ⊢
              obtain ⟨rfl, rfl⟩ := prs5 a211 hsm hy
              refine oj_step (y_move rfl) rfl rfl rfl ?_
              refine oj_step (y_extract rfl rfl) rfl rfl rfl ?_
              refine oj_step (y_extract rfl rfl) rfl rfl rfl ?_
              refine oj_alloc Tryz.zeroValue26 rfl rfl (fun b13 => ?_)
              refine oj_store rfl rfl rfl rfl Tryz.sizeOf26 rfl ?_
              refine oj_step (y_assign rfl) rfl rfl rfl ?_
              refine oj_nil ?_
              refine ej_th (cj_seq (cj_region ?_))
              refine oj_step (y_move rfl) rfl rfl rfl ?_
              refine oj_step (y_neq rfl rfl) rfl rfl rfl ?_
              refine oj_step (y_move rfl) rfl rfl rfl ?_
              refine oj_yes rfl rfl rfl ?_
              refine oj_step (y_fa0 fa26_0 rfl) rfl rfl rfl ?_
              refine oj_yes rfl rfl rfl ?_
              refine oj_step (y_load1 Tryz.isAgg9 rfl rfl) rfl rfl rfl ?_
              refine oj_yes rfl rfl rfl ?_
              refine oj_step (y_neqS rfl rfl) rfl rfl rfl ?_
              refine oj_step (y_pick rfl rfl rfl) rfl rfl rfl ?_
              refine oj_nil ?_
              refine ej_th ?_
              refine cj_condF rfl (by decide) ?_
              refine cj_skip (ej_blk (ej_th ?_))
              refine cj_regionG (gj_step (y_add rfl rfl (by omega)) rfl rfl rfl (gj_step (y_move rfl) rfl rfl rfl (gj_nil ?_)))
              exact ej_nx (i + 1) (by omega) (by omega) ⟨rfl, rfl, rfl, trivial⟩
            · have h207b := h207
              try simp only [sxb] at h207
              refine cj_exit (ej_then_exit (ej_then_exit (ej_blk_hit ?_)))
              exact ej_ct () trivial trivial
          · rintro - -
            dsimp only [List.cons_append, List.nil_append]
            refine cj_wk [] [] [gl 0 [.int .i64 mx]] trivial ?_
            refine cj_seq (cj_region ?_)
            refine oj_call (X := Nat × Nat × Nat × Nat × Nat) (fun z => .agg #[.slice (some ⟨z.1, 0, none⟩) 2 2, .slice (some ⟨z.2.1, 0, none⟩) 2 2, .slice (some ⟨z.2.2.1, 0, none⟩) 2 2]) (fun _ => []) (fun z => [litS z.1 2 encMe mEx, litS z.2.1 1 enInt tEx, litS z.2.2.1 1 encFk (fEx z.2.2.2.1 z.2.2.2.2), litS z.2.2.2.1 2 encSp [⟨90, 93⟩, ⟨900, 1100⟩], litS z.2.2.2.2 2 encSp [⟨95, 105⟩, ⟨1016, 1030⟩]]) Tryz.call19 rfl (fun w hp => k_skillEx w) rfl ?_
            rintro ⟨mm, mt, mf, m1, m2⟩
            dsimp only [List.nil_append, List.cons_append]
            refine oj_alloc Tryz.zeroValue52 rfl rfl (fun b15 => ?_)
            refine oj_store rfl rfl rfl rfl Tryz.sizeOf52 rfl ?_
            refine oj_nil ?_
            refine ej_th (cj_seq (cj_region ?_))
            refine oj_step (y_fa0 fa52_0 rfl) rfl rfl rfl ?_
            refine oj_step (y_load1 Tryz.isAgg48 rfl rfl) rfl rfl rfl ?_
            refine oj_buildSlice (cs := [.int .i64 100, .int .i64 (-1)]) [.int .i64 0, .int .i64 0] Tryz.underlying49 Tryz.sizeOf3 Tryz.zeroValue3 rfl rfl (by kernel_rfl) (by kernel_rfl) rfl (fun b228 => ?_)
            refine oj_buildSlice (cs := [.int .i64 105, .int .i64 (-1)]) [.int .i64 0, .int .i64 0] Tryz.underlying49 Tryz.sizeOf3 Tryz.zeroValue3 rfl rfl (by kernel_rfl) (by kernel_rfl) rfl (fun b229 => ?_)
            refine oj_buildSlice (cs := [.slice (some ⟨b228, 0, none⟩) 2 2, .slice (some ⟨b229, 0, none⟩) 2 2]) [.slice none 0 0, .slice none 0 0] Tryz.underlying57 Tryz.sizeOf49 Tryz.zeroValue49 rfl rfl (by kernel_rfl) (by kernel_rfl) rfl (fun b230 => ?_)
            refine oj_callS (fun A c => .tuple #[.slice A ([] : List Span).length c, .int .i64 15]) 2 encSp ([] : List Span) Tryz.call20 rfl (fun w hp => kz_n1 (some ⟨mm, 0, none⟩) (some ⟨b230, 0, none⟩) b228 b229 w hp.rd (hp.rdLit (b := b230) (sz := 1) (enc := encLs) ([⟨at0 b228, 2, [100, -1]⟩, ⟨at0 b229, 2, [105, -1]⟩] : List ListV) (fun _ => rfl) rfl (by unfold maxLen; simp)) (allC (show Rd w 1 enInt _ _ from (hp.rdLit (b := b228) (sz := 1) (enc := enInt) [100, -1] (fun _ => rfl) rfl (by unfold maxLen; simp))) (all1 (show Rd w 1 enInt _ _ from (hp.rdLit (b := b229) (sz := 1) (enc := enInt) [105, -1] (fun _ => rfl) rfl (by unfold maxLen; simp)))))) rfl (fun A231 c231 fp231 hfp231 => ?_)
            refine oj_step (y_move rfl) rfl rfl rfl ?_
            refine oj_step (y_extract rfl rfl) rfl rfl rfl ?_
            refine oj_step (y_extract rfl rfl) rfl rfl rfl ?_
            refine oj_step (y_assign rfl) rfl rfl rfl ?_
            refine oj_step (y_assign rfl) rfl rfl rfl ?_
            refine oj_nil ?_
            refine ej_th ?_
            refine cj_wk [(15, _), (17, _)] [ownB b15 (cellsB 52 [.slice (some ⟨mm, 0, none⟩) 2 2, .slice (some ⟨mt, 0, none⟩) 2 2, .slice (some ⟨mf, 0, none⟩) 2 2])] [litS mm 2 encMe mEx, litS mt 1 enInt tEx, litS mf 1 encFk (fEx m1 m2), litS m1 2 encSp [⟨90, 93⟩, ⟨900, 1100⟩], litS m2 2 encSp [⟨95, 105⟩, ⟨1016, 1030⟩], gl 0 [.int .i64 mx]] ⟨rfl, rfl, trivial⟩ ?_
            refine cj_seq (cj_region ?_)
            refine oj_step (y_fa0 fa52_0 rfl) rfl rfl rfl ?_
            refine oj_step (y_load1 Tryz.isAgg48 rfl rfl) rfl rfl rfl ?_
            refine oj_buildSlice (cs := [.int .i64 1]) [.int .i64 0] Tryz.underlying49 Tryz.sizeOf3 Tryz.zeroValue3 rfl rfl (by kernel_rfl) (by kernel_rfl) rfl (fun b237 => ?_)
            refine oj_buildSlice (cs := [.slice (some ⟨b237, 0, none⟩) 1 1]) [.slice none 0 0] Tryz.underlying57 Tryz.sizeOf49 Tryz.zeroValue49 rfl rfl (by kernel_rfl) (by kernel_rfl) rfl (fun b238 => ?_)
            refine oj_callS (fun A c => .tuple #[.slice A ([] : List Span).length c, .int .i64 13]) 2 encSp ([] : List Span) Tryz.call20 rfl (fun w hp => kz_n2 (some ⟨mm, 0, none⟩) (some ⟨b238, 0, none⟩) b237 w hp.rd (hp.rdLit (b := b238) (sz := 1) (enc := encLs) ([⟨at0 b237, 1, [1]⟩] : List ListV) (fun _ => rfl) rfl (by unfold maxLen; simp)) (all1 (show Rd w 1 enInt _ _ from (hp.rdLit (b := b237) (sz := 1) (enc := enInt) [1] (fun _ => rfl) rfl (by unfold maxLen; simp))))) rfl (fun A239 c239 fp239 hfp239 => ?_)
            refine oj_step (y_move rfl) rfl rfl rfl ?_
            refine oj_step (y_extract rfl rfl) rfl rfl rfl ?_
            refine oj_step (y_extract rfl rfl) rfl rfl rfl ?_
            refine oj_step (y_assign rfl) rfl rfl rfl ?_
            refine oj_step (y_assign rfl) rfl rfl rfl ?_
            refine oj_nil ?_
            refine ej_th ?_
            refine cj_wk [(15, _), (17, _), (19, _)] [ownB b15 (cellsB 52 [.slice (some ⟨mm, 0, none⟩) 2 2, .slice (some ⟨mt, 0, none⟩) 2 2, .slice (some ⟨mf, 0, none⟩) 2 2])] [litS mm 2 encMe mEx, litS mt 1 enInt tEx, litS mf 1 encFk (fEx m1 m2), litS m1 2 encSp [⟨90, 93⟩, ⟨900, 1100⟩], litS m2 2 encSp [⟨95, 105⟩, ⟨1016, 1030⟩], gl 0 [.int .i64 mx]] ⟨rfl, rfl, rfl, trivial⟩ ?_
            refine cj_seq ?_
            refine cj_plan 9 (by kernel_rfl) (by kernel_rfl) ?_
            refine pl_y 0 rfl (y_fa0 fa52_0 rfl) rfl rfl rfl rfl (by kernel_rfl) ?_
            refine pl_y 1 rfl (y_load1 Tryz.isAgg48 rfl rfl) rfl rfl rfl rfl (by kernel_rfl) ?_
            refine pl_w1 2 (by kernel_rfl) rfl rfl (pl_fire rfl rfl rfl (by kernel_rfl) ?_)
            refine oj_makeSliceC (z := .slice none 0 0) (List.replicate 17 (.slice none 0 0)) Tryz.underlying57 Tryz.type49 (by kernel_rfl) (by kernel_rfl) rfl rfl (by decide) (by decide) (by kernel_rfl) rfl (fun b245 => ?_)
            refine oj_nil ?_
            refine ej_pl (lt_y (y_load1 Tryz.isAgg48 rfl rfl) rfl (lt_y (y_fa0 fa52_0 rfl) rfl (lt_nil))) ?_
            refine pl_w1 3 (by kernel_rfl) rfl rfl (pl_fire rfl rfl rfl (by kernel_rfl) ?_)
            refine oj_callS (fun A c => .tuple #[.slice A ([] : List Span).length c, .int .i64 3]) 2 encSp ([] : List Span) Tryz.call20 rfl (fun w hp => kz_n3 (some ⟨mm, 0, none⟩) (some ⟨b245, 0, none⟩) w hp.rd (hp.rdLit (b := b245) (sz := 1) (enc := encLs) l17 (fun _ => rfl) (by kernel_rfl) (by unfold maxLen; simp)) (fun r hr => by rw [(List.mem_replicate.1 hr).2]; exact Rd.nil)) rfl (fun A246 c246 fp246 hfp246 => ?_)
            refine oj_nil ?_
            refine ej_pl (lt_w (by kernel_rfl) (lt_y (y_fa0 fa52_0 rfl) rfl (lt_nil))) ?_
            refine pl_y 4 rfl (y_move rfl) rfl rfl rfl rfl (by kernel_rfl) ?_
            refine pl_y 5 rfl (y_extract rfl rfl) rfl rfl rfl rfl (by kernel_rfl) ?_
            refine pl_y 6 rfl (y_extract rfl rfl) rfl rfl rfl rfl (by kernel_rfl) ?_
            refine pl_y 7 rfl (y_assign rfl) rfl rfl rfl rfl (by kernel_rfl) ?_
            refine pl_y 8 rfl (y_assign rfl) rfl rfl rfl rfl (by kernel_rfl) ?_
            refine pl_end (by kernel_rfl) ?_
            refine ej_th ?_
            refine cj_wk [(15, _), (17, _), (19, _), (21, _)] [ownB b15 (cellsB 52 [.slice (some ⟨mm, 0, none⟩) 2 2, .slice (some ⟨mt, 0, none⟩) 2 2, .slice (some ⟨mf, 0, none⟩) 2 2])] [litS mm 2 encMe mEx, litS mt 1 enInt tEx, litS mf 1 encFk (fEx m1 m2), litS m1 2 encSp [⟨90, 93⟩, ⟨900, 1100⟩], litS m2 2 encSp [⟨95, 105⟩, ⟨1016, 1030⟩], gl 0 [.int .i64 mx]] ⟨rfl, rfl, rfl, rfl, trivial⟩ ?_
            refine cj_seq (cj_region ?_)
            refine oj_step (y_fa0 fa52_0 rfl) rfl rfl rfl ?_
            refine oj_step (y_load1 Tryz.isAgg48 rfl rfl) rfl rfl rfl ?_
            refine oj_step (y_fa fa52_1 rfl) rfl rfl rfl ?_
            refine oj_step (y_load1 Tryz.isAgg49 rfl rfl) rfl rfl rfl ?_
            refine oj_buildSlice (cs := [.int .i64 105, .int .i64 1000]) [.int .i64 0, .int .i64 0] Tryz.underlying49 Tryz.sizeOf3 Tryz.zeroValue3 rfl rfl (by kernel_rfl) (by kernel_rfl) rfl (fun b254 => ?_)
            refine oj_step (y_call Tryz.call21 rfl (fun w hp => kz_a1 (some ⟨mm, 0, none⟩) (some ⟨mt, 0, none⟩) (some ⟨b254, 0, none⟩) w hp.rd hp.rd (hp.rdLit (b := b254) (sz := 1) (enc := enInt) [105, 1000] (fun _ => rfl) rfl (by unfold maxLen; simp)))) rfl rfl rfl ?_
            refine oj_step (y_move rfl) rfl rfl rfl ?_
            refine oj_step (y_extract rfl rfl) rfl rfl rfl ?_
            refine oj_step (y_extract rfl rfl) rfl rfl rfl ?_
            refine oj_step (y_assign rfl) rfl rfl rfl ?_
            refine oj_step (y_assign rfl) rfl rfl rfl ?_
            refine oj_nil ?_
            refine ej_th ?_
            refine cj_wk [(15, _), (17, _), (19, _), (21, _), (22, _), (23, _)] [ownB b15 (cellsB 52 [.slice (some ⟨mm, 0, none⟩) 2 2, .slice (some ⟨mt, 0, none⟩) 2 2, .slice (some ⟨mf, 0, none⟩) 2 2])] [litS mm 2 encMe mEx, litS mt 1 enInt tEx, litS mf 1 encFk (fEx m1 m2), litS m1 2 encSp [⟨90, 93⟩, ⟨900, 1100⟩], litS m2 2 encSp [⟨95, 105⟩, ⟨1016, 1030⟩], gl 0 [.int .i64 mx]] ⟨rfl, rfl, rfl, rfl, rfl, rfl, trivial⟩ ?_
            refine cj_seq ?_
            refine cj_regionG ?_
            refine gj_step (y_call Tryz.call21 rfl (fun w hp => kz_a2 w)) rfl rfl rfl ?_
            refine gj_step (y_move rfl) rfl rfl rfl (gj_step (y_extract rfl rfl) rfl rfl rfl (gj_step (y_extract rfl rfl) rfl rfl rfl (gj_step (y_assign rfl) rfl rfl rfl (gj_step (y_assign rfl) rfl rfl rfl (?_)))))
            refine gj_nil ?_
            refine ej_th ?_
            refine cj_wk [(15, _), (17, _), (19, _), (21, _), (22, _), (23, _), (25, _)] [ownB b15 (cellsB 52 [.slice (some ⟨mm, 0, none⟩) 2 2, .slice (some ⟨mt, 0, none⟩) 2 2, .slice (some ⟨mf, 0, none⟩) 2 2])] [litS mm 2 encMe mEx, litS mt 1 enInt tEx, litS mf 1 encFk (fEx m1 m2), litS m1 2 encSp [⟨90, 93⟩, ⟨900, 1100⟩], litS m2 2 encSp [⟨95, 105⟩, ⟨1016, 1030⟩], gl 0 [.int .i64 mx]] ⟨rfl, rfl, rfl, rfl, rfl, rfl, rfl, trivial⟩ ?_
            refine cj_seq (cj_region ?_)
            refine oj_step (y_fa0 fa52_0 rfl) rfl rfl rfl ?_
            refine oj_step (y_load1 Tryz.isAgg48 rfl rfl) rfl rfl rfl ?_
            refine oj_step (y_fa fa52_1 rfl) rfl rfl rfl ?_
            refine oj_step (y_load1 Tryz.isAgg49 rfl rfl) rfl rfl rfl ?_
            refine oj_step (y_build st63 rfl rfl) rfl rfl rfl ?_
            refine oj_callS (fun A c => .tuple #[.slice A ([] : List Int).length c, .int .i64 14]) 1 enInt ([] : List Int) Tryz.call22 rfl (fun w hp => kz_f1 (some ⟨mm, 0, none⟩) (some ⟨mt, 0, none⟩) w hp.rd hp.rd) rfl (fun A268 c268 fp268 hfp268 => ?_)
            refine oj_step (y_move rfl) rfl rfl rfl ?_
            refine oj_step (y_extract rfl rfl) rfl rfl rfl ?_
            refine oj_step (y_extract rfl rfl) rfl rfl rfl ?_
            refine oj_step (y_assign rfl) rfl rfl rfl ?_
            refine oj_step (y_assign rfl) rfl rfl rfl ?_
            refine oj_nil ?_
            refine ej_th ?_
            refine cj_wk [(15, _), (17, _), (19, _), (21, _), (22, _), (23, _), (25, _), (27, _)] [ownB b15 (cellsB 52 [.slice (some ⟨mm, 0, none⟩) 2 2, .slice (some ⟨mt, 0, none⟩) 2 2, .slice (some ⟨mf, 0, none⟩) 2 2])] [litS mm 2 encMe mEx, litS mt 1 enInt tEx, litS mf 1 encFk (fEx m1 m2), litS m1 2 encSp [⟨90, 93⟩, ⟨900, 1100⟩], litS m2 2 encSp [⟨95, 105⟩, ⟨1016, 1030⟩], gl 0 [.int .i64 mx]] ⟨rfl, rfl, rfl, rfl, rfl, rfl, rfl, rfl, trivial⟩ ?_
            refine cj_seq (cj_region ?_)
            refine oj_step (y_fa0 fa52_0 rfl) rfl rfl rfl ?_
            refine oj_step (y_load1 Tryz.isAgg48 rfl rfl) rfl rfl rfl ?_
            refine oj_step (y_fa fa52_1 rfl) rfl rfl rfl ?_
            refine oj_step (y_load1 Tryz.isAgg49 rfl rfl) rfl rfl rfl ?_
            refine oj_step (y_fa fa52_2 rfl) rfl rfl rfl ?_
            refine oj_step (y_load1 Tryz.isAgg50 rfl rfl) rfl rfl rfl ?_
            refine oj_buildSlice (cs := [.int .i64 1, .int .i64 0]) [.int .i64 0, .int .i64 0] Tryz.underlying49 Tryz.sizeOf3 Tryz.zeroValue3 rfl rfl (by kernel_rfl) (by kernel_rfl) rfl (fun b278 => ?_)
            refine oj_step (y_call Tryz.call23 rfl (fun w hp => kz_s1 (some ⟨mm, 0, none⟩) (some ⟨mt, 0, none⟩) (some ⟨mf, 0, none⟩) (some ⟨b278, 0, none⟩) m1 m2 w hp.rd hp.rd hp.rd (fun f hff => by
              simp only [List.mem_cons, List.mem_nil_iff, or_false] at hff
              rcases hff with rfl | rfl
              · exact hp.rd
              · exact hp.rd) (hp.rdLit (b := b278) (sz := 1) (enc := enInt) [1, 0] (fun _ => rfl) rfl (by unfold maxLen; simp)))) rfl rfl rfl ?_
            refine oj_step (y_move rfl) rfl rfl rfl ?_
            refine oj_step (y_extract rfl rfl) rfl rfl rfl ?_
            refine oj_step (y_extract rfl rfl) rfl rfl rfl ?_
            refine oj_step (y_assign rfl) rfl rfl rfl ?_
            refine oj_step (y_assign rfl) rfl rfl rfl ?_
            refine oj_nil ?_
            refine ej_th ?_
            refine cj_wk [(15, _), (17, _), (19, _), (21, _), (22, _), (23, _), (25, _), (27, _), (29, _)] [ownB b15 (cellsB 52 [.slice (some ⟨mm, 0, none⟩) 2 2, .slice (some ⟨mt, 0, none⟩) 2 2, .slice (some ⟨mf, 0, none⟩) 2 2])] [litS mm 2 encMe mEx, litS mt 1 enInt tEx, litS mf 1 encFk (fEx m1 m2), litS m1 2 encSp [⟨90, 93⟩, ⟨900, 1100⟩], litS m2 2 encSp [⟨95, 105⟩, ⟨1016, 1030⟩], gl 0 [.int .i64 mx]] ⟨rfl, rfl, rfl, rfl, rfl, rfl, rfl, rfl, rfl, trivial⟩ ?_
            refine cj_seq (cj_region ?_)
            refine oj_step (y_fa0 fa52_0 rfl) rfl rfl rfl ?_
            refine oj_step (y_load1 Tryz.isAgg48 rfl rfl) rfl rfl rfl ?_
            refine oj_step (y_fa fa52_1 rfl) rfl rfl rfl ?_
            refine oj_step (y_load1 Tryz.isAgg49 rfl rfl) rfl rfl rfl ?_
            refine oj_step (y_fa fa52_2 rfl) rfl rfl rfl ?_
            refine oj_step (y_load1 Tryz.isAgg50 rfl rfl) rfl rfl rfl ?_
            refine oj_buildSlice (cs := [.int .i64 1]) [.int .i64 0] Tryz.underlying49 Tryz.sizeOf3 Tryz.zeroValue3 rfl rfl (by kernel_rfl) (by kernel_rfl) rfl (fun b289 => ?_)
            refine oj_step (y_call Tryz.call23 rfl (fun w hp => kz_s2 (some ⟨mm, 0, none⟩) (some ⟨mt, 0, none⟩) (some ⟨mf, 0, none⟩) (some ⟨b289, 0, none⟩) m1 m2 w hp.rd hp.rd hp.rd (fun f hff => by
              simp only [List.mem_cons, List.mem_nil_iff, or_false] at hff
              rcases hff with rfl | rfl
              · exact hp.rd
              · exact hp.rd) (hp.rdLit (b := b289) (sz := 1) (enc := enInt) [1] (fun _ => rfl) rfl (by unfold maxLen; simp)))) rfl rfl rfl ?_
            refine oj_step (y_move rfl) rfl rfl rfl ?_
            refine oj_step (y_extract rfl rfl) rfl rfl rfl ?_
            refine oj_step (y_extract rfl rfl) rfl rfl rfl ?_
            refine oj_step (y_assign rfl) rfl rfl rfl ?_
            refine oj_step (y_assign rfl) rfl rfl rfl ?_
            refine oj_nil ?_
            refine ej_th ?_
            refine cj_cuti (X := Unit) [(15, _), (17, _), (19, _), (21, _), (23, _), (25, _), (27, _)] ⟨rfl, rfl, rfl, rfl, rfl, rfl, rfl, trivial⟩ (fun _ => True) (fun _ => []) (fun _ => [ownB b15 (cellsB 52 [.slice (some ⟨mm, 0, none⟩) 2 2, .slice (some ⟨mt, 0, none⟩) 2 2, .slice (some ⟨mf, 0, none⟩) 2 2])]) (fun _ => [litS mm 2 encMe mEx, litS mt 1 enInt tEx, litS mf 1 encFk (fEx m1 m2), litS m1 2 encSp [⟨90, 93⟩, ⟨900, 1100⟩], litS m2 2 encSp [⟨95, 105⟩, ⟨1016, 1030⟩], gl 0 [.int .i64 mx]]) ?_ ?_
            · refine cj_wk [(15, _), (17, _), (19, _), (21, _), (22, _), (23, _), (25, _), (27, _), (29, _), (30, _), (31, _)] [ownB b15 (cellsB 52 [.slice (some ⟨mm, 0, none⟩) 2 2, .slice (some ⟨mt, 0, none⟩) 2 2, .slice (some ⟨mf, 0, none⟩) 2 2])] [litS mm 2 encMe mEx, litS mt 1 enInt tEx, litS mf 1 encFk (fEx m1 m2), litS m1 2 encSp [⟨90, 93⟩, ⟨900, 1100⟩], litS m2 2 encSp [⟨95, 105⟩, ⟨1016, 1030⟩], gl 0 [.int .i64 mx]] ⟨rfl, rfl, rfl, rfl, rfl, rfl, rfl, rfl, rfl, rfl, rfl, trivial⟩ ?_
              refine cj_seq (cj_region ?_)
              refine oj_step (y_move rfl) rfl rfl rfl ?_
              refine oj_step (y_neq rfl rfl) rfl rfl rfl ?_
              refine oj_step (y_move rfl) rfl rfl rfl ?_
              refine oj_yes rfl rfl rfl ?_
              refine oj_step (y_move rfl) rfl rfl rfl ?_
              refine oj_yes rfl rfl rfl ?_
              refine oj_step (y_neq rfl rfl) rfl rfl rfl ?_
              refine oj_step (y_pick rfl rfl rfl) rfl rfl rfl ?_
              refine oj_step (y_move rfl) rfl rfl rfl ?_
              refine oj_yes rfl rfl rfl ?_
              refine oj_step (y_move rfl) rfl rfl rfl ?_
              refine oj_yes rfl rfl rfl ?_
              refine oj_step (y_neq rfl rfl) rfl rfl rfl ?_
              refine oj_step (y_pick rfl rfl rfl) rfl rfl rfl ?_
              refine oj_step (y_move rfl) rfl rfl rfl ?_
              refine oj_yes rfl rfl rfl ?_
              refine oj_step (y_move rfl) rfl rfl rfl ?_
              refine oj_yes rfl rfl rfl ?_
              refine oj_step (y_neq rfl rfl) rfl rfl rfl ?_
              refine oj_step (y_pick rfl rfl rfl) rfl rfl rfl ?_
              refine oj_step (y_move rfl) rfl rfl rfl ?_
              refine oj_yes rfl rfl rfl ?_
              refine oj_step (y_move rfl) rfl rfl rfl ?_
              refine oj_step (y_pick rfl rfl rfl) rfl rfl rfl ?_
              refine oj_step (y_move rfl) rfl rfl rfl ?_
              refine oj_yes rfl rfl rfl ?_
              refine oj_step (y_move rfl) rfl rfl rfl ?_
              refine oj_yes rfl rfl rfl ?_
              refine oj_step (y_neq rfl rfl) rfl rfl rfl ?_
              refine oj_step (y_pick rfl rfl rfl) rfl rfl rfl ?_
              refine oj_step (y_move rfl) rfl rfl rfl ?_
              refine oj_yes rfl rfl rfl ?_
              refine oj_step (y_move rfl) rfl rfl rfl ?_
              refine oj_yes rfl rfl rfl ?_
              refine oj_step (y_neq rfl rfl) rfl rfl rfl ?_
              refine oj_step (y_pick rfl rfl rfl) rfl rfl rfl ?_
              refine oj_step (y_move rfl) rfl rfl rfl ?_
              refine oj_yes rfl rfl rfl ?_
              refine oj_step (y_move rfl) rfl rfl rfl ?_
              refine oj_yes rfl rfl rfl ?_
              refine oj_step (y_neq rfl rfl) rfl rfl rfl ?_
              refine oj_step (y_pick rfl rfl rfl) rfl rfl rfl ?_
              refine oj_step (y_move rfl) rfl rfl rfl ?_
              refine oj_yes rfl rfl rfl ?_
              refine oj_step (y_move rfl) rfl rfl rfl ?_
              refine oj_yes rfl rfl rfl ?_
              refine oj_step (y_neq rfl rfl) rfl rfl rfl ?_
              refine oj_step (y_pick rfl rfl rfl) rfl rfl rfl ?_
              refine oj_step (y_move rfl) rfl rfl rfl ?_
              refine oj_yes rfl rfl rfl ?_
              refine oj_step (y_move rfl) rfl rfl rfl ?_
              refine oj_step (y_pick rfl rfl rfl) rfl rfl rfl ?_
              refine oj_nil ?_
              refine ej_th ?_
              refine cj_condF rfl (by decide) ?_
              refine cj_skip ?_
              exact ej_ct () trivial ⟨rfl, rfl, rfl, rfl, rfl, rfl, rfl, trivial⟩
            · rintro - -
              dsimp only [List.cons_append, List.nil_append]
              refine cj_wk [(15, _), (17, _), (19, _), (21, _), (23, _), (25, _), (27, _)] [ownB b15 (cellsB 52 [.slice (some ⟨mm, 0, none⟩) 2 2, .slice (some ⟨mt, 0, none⟩) 2 2, .slice (some ⟨mf, 0, none⟩) 2 2])] [litS mm 2 encMe mEx, litS mt 1 enInt tEx, litS mf 1 encFk (fEx m1 m2), litS m1 2 encSp [⟨90, 93⟩, ⟨900, 1100⟩], litS m2 2 encSp [⟨95, 105⟩, ⟨1016, 1030⟩], gl 0 [.int .i64 mx]] ⟨rfl, rfl, rfl, rfl, rfl, rfl, rfl, trivial⟩ ?_
              refine cj_seq ?_
              refine cj_plan 15 (by kernel_rfl) (by kernel_rfl) ?_
              refine pl_y 0 rfl (y_fa0 fa52_0 rfl) rfl rfl rfl rfl (by kernel_rfl) ?_
              refine pl_y 1 rfl (y_load1 Tryz.isAgg48 rfl rfl) rfl rfl rfl rfl (by kernel_rfl) ?_
              refine pl_y 2 rfl (y_fa fa52_1 rfl) rfl rfl rfl rfl (by kernel_rfl) ?_
              refine pl_y 3 rfl (y_load1 Tryz.isAgg49 rfl rfl) rfl rfl rfl rfl (by kernel_rfl) ?_
              refine pl_y 4 rfl (y_fa fa52_2 rfl) rfl rfl rfl rfl (by kernel_rfl) ?_
              refine pl_y 5 rfl (y_load1 Tryz.isAgg50 rfl rfl) rfl rfl rfl rfl (by kernel_rfl) ?_
              refine pl_y 6 rfl (y_sliceTo (xs := fEx m1 m2) 1 Tryz.underlying50 Tryz.sizeOf63 rfl rfl (show 1 ≤ 2 by decide) (Nat.le_refl 2)) rfl rfl rfl rfl (by kernel_rfl) ?_
              refine pl_w1 7 (by kernel_rfl) rfl rfl (pl_fire rfl rfl rfl (by kernel_rfl) ?_)
              refine oj_callS (fun A c => .tuple #[.slice A ([0] : List Int).length c, .int .i64 1, .int .i64 0]) 1 enInt ([0] : List Int) Tryz.call24 rfl (fun w hp => kz_l1 (some ⟨mm, 0, none⟩) (some ⟨mt, 0, none⟩) (some ⟨mf, 0, none⟩) m1 m2 w hp.rd hp.rd hp.rd (fun f hff => by
                simp only [List.mem_cons, List.mem_nil_iff, or_false] at hff
                rcases hff with rfl | rfl
                · exact hp.rd
                · exact hp.rd)) rfl (fun A337 c337 fp337 hfp337 => ?_)
              refine oj_nil ?_
              refine ej_pl (lt_w (by kernel_rfl) (lt_y (y_load1 Tryz.isAgg50 rfl rfl) rfl (lt_y (y_fa fa52_2 rfl) rfl (lt_w (by kernel_rfl) (lt_y (y_fa fa52_1 rfl) rfl (lt_w (by kernel_rfl) (lt_y (y_fa0 fa52_0 rfl) rfl (lt_nil)))))))) ?_
              refine pl_y 8 rfl (y_move rfl) rfl rfl rfl rfl (by kernel_rfl) ?_
              refine pl_y 9 rfl (y_extract rfl rfl) rfl rfl rfl rfl (by kernel_rfl) ?_
              refine pl_y 10 rfl (y_extract rfl rfl) rfl rfl rfl rfl (by kernel_rfl) ?_
              refine pl_y 11 rfl (y_extract rfl rfl) rfl rfl rfl rfl (by kernel_rfl) ?_
              refine pl_y 12 rfl (y_assign rfl) rfl rfl rfl rfl (by kernel_rfl) ?_
              refine pl_y 13 rfl (y_assign rfl) rfl rfl rfl rfl (by kernel_rfl) ?_
              refine pl_y 14 rfl (y_assign rfl) rfl rfl rfl rfl (by kernel_rfl) ?_
              refine pl_end (by kernel_rfl) ?_
              refine ej_th ?_
              refine cj_wk [(15, _), (17, _), (19, _), (21, _), (23, _), (25, _), (27, _), (32, _), (33, _)] [ownB b15 (cellsB 52 [.slice (some ⟨mm, 0, none⟩) 2 2, .slice (some ⟨mt, 0, none⟩) 2 2, .slice (some ⟨mf, 0, none⟩) 2 2])] [sl fp337 1 enInt A337 ([0] : List Int), litS mm 2 encMe mEx, litS mt 1 enInt tEx, litS mf 1 encFk (fEx m1 m2), litS m1 2 encSp [⟨90, 93⟩, ⟨900, 1100⟩], litS m2 2 encSp [⟨95, 105⟩, ⟨1016, 1030⟩], gl 0 [.int .i64 mx]] ⟨rfl, rfl, rfl, rfl, rfl, rfl, rfl, rfl, rfl, trivial⟩ ?_
              refine cj_seq (cj_region ?_)
              refine oj_step (y_fa0 fa52_0 rfl) rfl rfl rfl ?_
              refine oj_step (y_load1 Tryz.isAgg48 rfl rfl) rfl rfl rfl ?_
              refine oj_step (y_fa fa52_1 rfl) rfl rfl rfl ?_
              refine oj_step (y_load1 Tryz.isAgg49 rfl rfl) rfl rfl rfl ?_
              refine oj_callS (fun A c => .tuple #[.slice A ([] : List Int).length c, .int .i64 0, .int .i64 0]) 1 enInt ([] : List Int) Tryz.call24 rfl (fun w hp => kz_l2 (some ⟨mm, 0, none⟩) (some ⟨mt, 0, none⟩) w hp.rd hp.rd) rfl (fun A346 c346 fp346 hfp346 => ?_)
              refine oj_step (y_move rfl) rfl rfl rfl ?_
              refine oj_step (y_extract rfl rfl) rfl rfl rfl ?_
              refine oj_step (y_extract rfl rfl) rfl rfl rfl ?_
              refine oj_step (y_extract rfl rfl) rfl rfl rfl ?_
              refine oj_step (y_assign rfl) rfl rfl rfl ?_
              refine oj_step (y_assign rfl) rfl rfl rfl ?_
              refine oj_step (y_assign rfl) rfl rfl rfl ?_
              refine oj_nil ?_
              refine ej_th ?_
              refine cj_wk [(15, _), (17, _), (19, _), (21, _), (23, _), (25, _), (27, _), (32, _), (33, _), (34, _), (35, _)] [ownB b15 (cellsB 52 [.slice (some ⟨mm, 0, none⟩) 2 2, .slice (some ⟨mt, 0, none⟩) 2 2, .slice (some ⟨mf, 0, none⟩) 2 2])] [sl fp337 1 enInt A337 ([0] : List Int), litS mm 2 encMe mEx, litS mt 1 enInt tEx, litS mf 1 encFk (fEx m1 m2), litS m1 2 encSp [⟨90, 93⟩, ⟨900, 1100⟩], litS m2 2 encSp [⟨95, 105⟩, ⟨1016, 1030⟩], gl 0 [.int .i64 mx]] ⟨rfl, rfl, rfl, rfl, rfl, rfl, rfl, rfl, rfl, rfl, rfl, trivial⟩ ?_
              refine cj_seq (cj_region ?_)
              refine oj_step (y_fa0 fa52_0 rfl) rfl rfl rfl ?_
              refine oj_step (y_load1 Tryz.isAgg48 rfl rfl) rfl rfl rfl ?_
              refine oj_buildSlice (cs := [.int .i64 100, .int .i64 (-1)]) [.int .i64 0, .int .i64 0] Tryz.underlying49 Tryz.sizeOf3 Tryz.zeroValue3 rfl rfl (by kernel_rfl) (by kernel_rfl) rfl (fun b353 => ?_)
              refine oj_step (y_fa fa52_2 rfl) rfl rfl rfl ?_
              refine oj_step (y_load1 Tryz.isAgg50 rfl rfl) rfl rfl rfl ?_
              refine oj_callS (fun A c => .tuple #[.slice A ([] : List Int).length c, .int .i64 0, .int .i64 4]) 1 enInt ([] : List Int) Tryz.call24 rfl (fun w hp => kz_l3 (some ⟨mm, 0, none⟩) (some ⟨b353, 0, none⟩) (some ⟨mf, 0, none⟩) m1 m2 w hp.rd (hp.rdLit (b := b353) (sz := 1) (enc := enInt) [100, -1] (fun _ => rfl) rfl (by unfold maxLen; simp)) hp.rd (fun f hff => by
                simp only [List.mem_cons, List.mem_nil_iff, or_false] at hff
                rcases hff with rfl | rfl
                · exact hp.rd
                · exact hp.rd)) rfl (fun A356 c356 fp356 hfp356 => ?_)
              refine oj_step (y_move rfl) rfl rfl rfl ?_
              refine oj_step (y_extract rfl rfl) rfl rfl rfl ?_
              refine oj_step (y_extract rfl rfl) rfl rfl rfl ?_
              refine oj_step (y_extract rfl rfl) rfl rfl rfl ?_
              refine oj_step (y_assign rfl) rfl rfl rfl ?_
              refine oj_nil ?_
              refine ej_th ?_
              refine cj_wk [(15, _), (17, _), (19, _), (21, _), (23, _), (25, _), (27, _), (32, _), (33, _), (34, _), (35, _)] [ownB b15 (cellsB 52 [.slice (some ⟨mm, 0, none⟩) 2 2, .slice (some ⟨mt, 0, none⟩) 2 2, .slice (some ⟨mf, 0, none⟩) 2 2])] [sl fp337 1 enInt A337 ([0] : List Int), litS mm 2 encMe mEx, litS mt 1 enInt tEx, litS mf 1 encFk (fEx m1 m2), litS m1 2 encSp [⟨90, 93⟩, ⟨900, 1100⟩], litS m2 2 encSp [⟨95, 105⟩, ⟨1016, 1030⟩], gl 0 [.int .i64 mx]] ⟨rfl, rfl, rfl, rfl, rfl, rfl, rfl, rfl, rfl, rfl, rfl, trivial⟩ ?_
              refine cj_seq (cj_region ?_)
              refine oj_step (y_fa0 fa52_0 rfl) rfl rfl rfl ?_
              refine oj_step (y_load1 Tryz.isAgg48 rfl rfl) rfl rfl rfl ?_
              refine oj_step (y_fa fa52_1 rfl) rfl rfl rfl ?_
              refine oj_step (y_load1 Tryz.isAgg49 rfl rfl) rfl rfl rfl ?_
              refine oj_step (y_fa fa52_2 rfl) rfl rfl rfl ?_
              refine oj_step (y_load1 Tryz.isAgg50 rfl rfl) rfl rfl rfl ?_
              refine oj_buildSlice (cs := [.int .i64 2, .int .i64 4]) [.int .i64 0, .int .i64 0] Tryz.underlying49 Tryz.sizeOf3 Tryz.zeroValue3 rfl rfl (by kernel_rfl) (by kernel_rfl) rfl (fun b367 => ?_)
              refine oj_step (y_call Tryz.call25 rfl (fun w hp => kz_b1 (some ⟨mm, 0, none⟩) (some ⟨mt, 0, none⟩) (some ⟨mf, 0, none⟩) (some ⟨b367, 0, none⟩) m1 m2 w hp.rd hp.rd hp.rd (fun f hff => by
                simp only [List.mem_cons, List.mem_nil_iff, or_false] at hff
                rcases hff with rfl | rfl
                · exact hp.rd
                · exact hp.rd) (hp.rdLit (b := b367) (sz := 1) (enc := enInt) [2, 4] (fun _ => rfl) rfl (by unfold maxLen; simp)))) rfl rfl rfl ?_
              refine oj_step (y_move rfl) rfl rfl rfl ?_
              refine oj_step (y_extract rfl rfl) rfl rfl rfl ?_
              refine oj_step (y_extract rfl rfl) rfl rfl rfl ?_
              refine oj_step (y_assign rfl) rfl rfl rfl ?_
              refine oj_nil ?_
              refine ej_th ?_
              refine cj_wk [(15, _), (17, _), (19, _), (21, _), (23, _), (25, _), (27, _), (32, _), (33, _), (34, _), (35, _)] [ownB b15 (cellsB 52 [.slice (some ⟨mm, 0, none⟩) 2 2, .slice (some ⟨mt, 0, none⟩) 2 2, .slice (some ⟨mf, 0, none⟩) 2 2])] [sl fp337 1 enInt A337 ([0] : List Int), litS mm 2 encMe mEx, litS mt 1 enInt tEx, litS mf 1 encFk (fEx m1 m2), litS m1 2 encSp [⟨90, 93⟩, ⟨900, 1100⟩], litS m2 2 encSp [⟨95, 105⟩, ⟨1016, 1030⟩], gl 0 [.int .i64 mx]] ⟨rfl, rfl, rfl, rfl, rfl, rfl, rfl, rfl, rfl, rfl, rfl, trivial⟩ ?_
              refine cj_seq (cj_region ?_)
              refine oj_step (y_fa0 fa52_0 rfl) rfl rfl rfl ?_
              refine oj_step (y_load1 Tryz.isAgg48 rfl rfl) rfl rfl rfl ?_
              refine oj_step (y_fa fa52_1 rfl) rfl rfl rfl ?_
              refine oj_step (y_load1 Tryz.isAgg49 rfl rfl) rfl rfl rfl ?_
              refine oj_step (y_fa fa52_2 rfl) rfl rfl rfl ?_
              refine oj_step (y_load1 Tryz.isAgg50 rfl rfl) rfl rfl rfl ?_
              refine oj_buildSlice (cs := [.int .i64 1]) [.int .i64 0] Tryz.underlying49 Tryz.sizeOf3 Tryz.zeroValue3 rfl rfl (by kernel_rfl) (by kernel_rfl) rfl (fun b378 => ?_)
              refine oj_step (y_call Tryz.call25 rfl (fun w hp => kz_b2 (some ⟨mm, 0, none⟩) (some ⟨mt, 0, none⟩) (some ⟨mf, 0, none⟩) (some ⟨b378, 0, none⟩) m1 m2 w hp.rd hp.rd hp.rd (fun f hff => by
                simp only [List.mem_cons, List.mem_nil_iff, or_false] at hff
                rcases hff with rfl | rfl
                · exact hp.rd
                · exact hp.rd) (hp.rdLit (b := b378) (sz := 1) (enc := enInt) [1] (fun _ => rfl) rfl (by unfold maxLen; simp)))) rfl rfl rfl ?_
              refine oj_step (y_move rfl) rfl rfl rfl ?_
              refine oj_step (y_extract rfl rfl) rfl rfl rfl ?_
              refine oj_step (y_extract rfl rfl) rfl rfl rfl ?_
              refine oj_step (y_assign rfl) rfl rfl rfl ?_
              refine oj_nil ?_
              refine ej_th ?_
              refine cj_wk [(15, _), (17, _), (19, _), (21, _), (23, _), (25, _), (27, _), (32, _), (33, _), (34, _), (35, _)] [ownB b15 (cellsB 52 [.slice (some ⟨mm, 0, none⟩) 2 2, .slice (some ⟨mt, 0, none⟩) 2 2, .slice (some ⟨mf, 0, none⟩) 2 2])] [sl fp337 1 enInt A337 ([0] : List Int), litS mm 2 encMe mEx, litS mt 1 enInt tEx, litS mf 1 encFk (fEx m1 m2), litS m1 2 encSp [⟨90, 93⟩, ⟨900, 1100⟩], litS m2 2 encSp [⟨95, 105⟩, ⟨1016, 1030⟩], gl 0 [.int .i64 mx]] ⟨rfl, rfl, rfl, rfl, rfl, rfl, rfl, rfl, rfl, rfl, rfl, trivial⟩ ?_
              refine cj_seq (cj_region ?_)
              refine oj_step (y_fa0 fa52_0 rfl) rfl rfl rfl ?_
              refine oj_step (y_load1 Tryz.isAgg48 rfl rfl) rfl rfl rfl ?_
              refine oj_step (y_fa fa52_1 rfl) rfl rfl rfl ?_
              refine oj_step (y_load1 Tryz.isAgg49 rfl rfl) rfl rfl rfl ?_
              refine oj_step (y_build (cs := [.int .i64 106, .int .i64 107]) st70 rfl (by kernel_rfl)) rfl rfl rfl ?_
              refine oj_step (y_build (cs := [.int .i64 984, .int .i64 984]) st70 rfl (by kernel_rfl)) rfl rfl rfl ?_
              refine oj_buildSlice (cs := [.int .i64 106, .int .i64 107, .int .i64 984, .int .i64 984]) [.int .i64 0, .int .i64 0, .int .i64 0, .int .i64 0] Tryz.underlying54 Tryz.sizeOf70 Tryz.zeroValue70 rfl rfl (by kernel_rfl) (by kernel_rfl) rfl (fun b389 => ?_)
              refine oj_step (y_build (cs := [.slice (some ⟨b389, 0, none⟩) 2 2]) st63 rfl (by kernel_rfl)) rfl rfl rfl ?_
              refine oj_callS (fun A c => .tuple #[.slice A ([1] : List Int).length c, .int .i64 0]) 1 enInt ([1] : List Int) Tryz.call22 rfl (fun w hp => kz_f2 (some ⟨mm, 0, none⟩) (some ⟨mt, 0, none⟩) b389 w hp.rd hp.rd (hp.rdLit (b := b389) (sz := 2) (enc := encSp) [⟨106, 107⟩, ⟨984, 984⟩] (fun _ => rfl) rfl (by unfold maxLen; simp))) rfl (fun A391 c391 fp391 hfp391 => ?_)
              refine oj_step (y_move rfl) rfl rfl rfl ?_
              refine oj_step (y_extract rfl rfl) rfl rfl rfl ?_
              refine oj_step (y_extract rfl rfl) rfl rfl rfl ?_
              refine oj_step (y_assign rfl) rfl rfl rfl ?_
              refine oj_step (y_assign rfl) rfl rfl rfl ?_
              refine oj_nil ?_
              refine ej_th (cj_seq (cj_region ?_))
              refine oj_step (y_move rfl) rfl rfl rfl ?_
              refine oj_step (y_eql rfl rfl) rfl rfl rfl ?_
              refine oj_step (y_move rfl) rfl rfl rfl ?_
              refine oj_yes rfl rfl rfl ?_
              refine oj_step (y_move rfl) rfl rfl rfl ?_
              refine oj_yes rfl rfl rfl ?_
              refine oj_buildSlice (cs := [.int .i64 0]) [.int .i64 0] Tryz.underlying49 Tryz.sizeOf3 Tryz.zeroValue3 rfl rfl (by kernel_rfl) (by kernel_rfl) rfl (fun b398 => ?_)
              refine oj_yes rfl rfl rfl ?_
              refine oj_step (y_call Tryz.call26 rfl (fun w hp => k_Same ([0] : List Int) ([0] : List Int) A337 (some ⟨b398, 0, none⟩) c337 1 w hp.rd (hp.rdLit (b := b398) (sz := 1) (enc := enInt) ([0] : List Int) (fun _ => rfl) rfl (by unfold maxLen; simp)))) rfl rfl rfl ?_
              refine oj_step (y_pick rfl rfl rfl) rfl rfl rfl ?_
              refine oj_step (y_move rfl) rfl rfl rfl ?_
              refine oj_yes rfl rfl rfl ?_
              refine oj_step (y_move rfl) rfl rfl rfl ?_
              refine oj_yes rfl rfl rfl ?_
              refine oj_step (y_eql rfl rfl) rfl rfl rfl ?_
              refine oj_step (y_pick rfl rfl rfl) rfl rfl rfl ?_
              refine oj_step (y_move rfl) rfl rfl rfl ?_
              refine oj_yes rfl rfl rfl ?_
              refine oj_step (y_move rfl) rfl rfl rfl ?_
              refine oj_yes rfl rfl rfl ?_
              refine oj_step (y_eql rfl rfl) rfl rfl rfl ?_
              refine oj_step (y_pick rfl rfl rfl) rfl rfl rfl ?_
              refine oj_step (y_move rfl) rfl rfl rfl ?_
              refine oj_yes rfl rfl rfl ?_
              refine oj_step (y_move rfl) rfl rfl rfl ?_
              refine oj_yes rfl rfl rfl ?_
              refine oj_step (y_lenA Tryz.underlying49 rfl) rfl rfl rfl ?_
              refine oj_yes rfl rfl rfl ?_
              refine oj_step (y_eql rfl rfl) rfl rfl rfl ?_
              refine oj_step (y_pick rfl rfl rfl) rfl rfl rfl ?_
              refine oj_step (y_move rfl) rfl rfl rfl ?_
              refine oj_yes rfl rfl rfl ?_
              refine oj_step (y_move rfl) rfl rfl rfl ?_
              refine oj_yes rfl rfl rfl ?_
              refine oj_step (y_eql rfl rfl) rfl rfl rfl ?_
              refine oj_step (y_pick rfl rfl rfl) rfl rfl rfl ?_
              refine oj_step (y_move rfl) rfl rfl rfl ?_
              refine oj_yes rfl rfl rfl ?_
              refine oj_step (y_move rfl) rfl rfl rfl ?_
              refine oj_yes rfl rfl rfl ?_
              refine oj_step (y_eql rfl rfl) rfl rfl rfl ?_
              refine oj_step (y_pick rfl rfl rfl) rfl rfl rfl ?_
              refine oj_step (y_move rfl) rfl rfl rfl ?_
              refine oj_yes rfl rfl rfl ?_
              refine oj_step (y_move rfl) rfl rfl rfl ?_
              refine oj_yes rfl rfl rfl ?_
              refine oj_step (y_eql rfl rfl) rfl rfl rfl ?_
              refine oj_step (y_pick rfl rfl rfl) rfl rfl rfl ?_
              refine oj_step (y_move rfl) rfl rfl rfl ?_
              refine oj_yes rfl rfl rfl ?_
              refine oj_step (y_move rfl) rfl rfl rfl ?_
              refine oj_yes rfl rfl rfl ?_
              refine oj_step (y_eql rfl rfl) rfl rfl rfl ?_
              refine oj_step (y_pick rfl rfl rfl) rfl rfl rfl ?_
              refine oj_step (y_move rfl) rfl rfl rfl ?_
              refine oj_yes rfl rfl rfl ?_
              refine oj_step (y_move rfl) rfl rfl rfl ?_
              refine oj_yes rfl rfl rfl ?_
              refine oj_step (y_eql rfl rfl) rfl rfl rfl ?_
              refine oj_step (y_pick rfl rfl rfl) rfl rfl rfl ?_
              refine oj_step (y_move rfl) rfl rfl rfl ?_
              refine oj_yes rfl rfl rfl ?_
              refine oj_step (y_move rfl) rfl rfl rfl ?_
              refine oj_yes rfl rfl rfl ?_
              refine oj_buildSlice (cs := [.int .i64 1]) [.int .i64 0] Tryz.underlying49 Tryz.sizeOf3 Tryz.zeroValue3 rfl rfl (by kernel_rfl) (by kernel_rfl) rfl (fun b436 => ?_)
              refine oj_yes rfl rfl rfl ?_
              refine oj_step (y_call Tryz.call26 rfl (fun w hp => k_Same ([1] : List Int) ([1] : List Int) A391 (some ⟨b436, 0, none⟩) c391 1 w hp.rd (hp.rdLit (b := b436) (sz := 1) (enc := enInt) ([1] : List Int) (fun _ => rfl) rfl (by unfold maxLen; simp)))) rfl rfl rfl ?_
              refine oj_step (y_pick rfl rfl rfl) rfl rfl rfl ?_
              refine oj_step (y_move rfl) rfl rfl rfl ?_
              refine oj_step (y_pick rfl rfl rfl) rfl rfl rfl ?_
              refine oj_step (y_move rfl) rfl rfl rfl ?_
              refine oj_yes rfl rfl rfl ?_
              refine oj_step (y_call Tryz.call11 rfl (fun w hp => k_works w)) rfl rfl rfl ?_
              refine oj_step (y_pick rfl rfl rfl) rfl rfl rfl ?_
              refine oj_step (y_assign rfl) rfl rfl rfl ?_
              refine oj_nil ?_
              refine ej_th (cj_ret ?_)
              exact ej_ret1 rfl Tryz.results5 rfl (fun w' hp => ⟨rfl, hp.below⟩)

end Go.Proofs.YtlfbghkcfmcnlaaGreatDoor
