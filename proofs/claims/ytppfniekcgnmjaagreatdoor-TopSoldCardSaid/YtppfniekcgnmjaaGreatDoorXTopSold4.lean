/- Texts of ours, joined: 9 of them. Conditions: none. -/
import Derived.Test.YtppfniekcgnmjaaGreatDoorXTopSold3
import Derived.Test.YtppfniekcgnmjaaGreatDoorProg
import Derived.Laws.StructEq
namespace Go.Proofs.YtppfniekcgnmjaaGreatDoor.Ln
open Go.Sx Go.RowKit

abbrev mSales : List Sale := [⟨0, 800, 10, 40, 1000⟩, ⟨0, 434, 20, 50, 2000⟩, ⟨0, 70, 10, 30, 900⟩, ⟨1, 0, 5, 10, 40⟩]
abbrev mFade : List Int := [32, 64]
abbrev dealD : Deal := ⟨1000, 16, 500, 2, 50, 10, 3, [103, 104], 100, 100000⟩
theorem ex_crafts : CraftsL mSales mFade 50 800 2 0 = [150, 500, 600] := by decide +kernel
theorem ex_craftsE : CraftsE mSales mFade 50 800 2 0 = 0 := by decide +kernel
theorem ex_value : (valueOf mSales mFade 50 800 2 0 10 12).lo = 650 ∧ (valueOf mSales mFade 50 800 2 0 10 12).hi = 1200 ∧ (valueOf mSales mFade 50 800 2 0 10 12).err = 0 := by decide +kernel
theorem ex_most : MostN 40 300 5000 400 900 = 300 ∧ MostE 40 300 5000 400 900 = 0 := by decide +kernel
theorem ex_lend : LendN 40 300 5000 650 1200 1000 = 406 ∧ LendE 40 300 5000 650 1200 1000 = 0 := by decide +kernel
theorem ex_owe1 : OweA dealD [] 112 = ⟨100000, 400, 0, 10, true⟩ ∧ onE dealD [] 112 = 0 := by decide +kernel
theorem ex_owe2 : OweA dealD [⟨105, 2, 0⟩] 112 = ⟨100000, 450, 100, 7, true⟩ ∧ onE dealD [⟨105, 2, 0⟩] 112 = 0 := by decide +kernel
theorem ex_owe3 : OweA dealD [⟨105, 1, 20050⟩] 112 = ⟨80000, 330, 50, 10, true⟩ ∧ onE dealD [⟨105, 1, 20050⟩] 112 = 0 := by decide +kernel
theorem ex_owe4 : OweA dealD [⟨105, 3, 5⟩] 112 = ⟨100000, 150, 0, 5, true⟩ ∧ onE dealD [⟨105, 3, 5⟩] 112 = 0 := by decide +kernel
theorem ex_legal : LegalN dealD [] 105 = 300 ∧ onE dealD [] 105 = 0 := by decide +kernel
theorem ex_keep : KeepN dealD 140 = [115, 128] ∧ KeepE dealD 140 = 0 := by decide +kernel
end Go.Proofs.YtppfniekcgnmjaaGreatDoor.Ln
namespace Go.Proofs.YtppfniekcgnmjaaGreatDoor.Ln
open Go.Sx Go.RowKit
set_option maxRecDepth 20000
end Go.Proofs.YtppfniekcgnmjaaGreatDoor.Ln
namespace Go.Proofs.YtppfniekcgnmjaaGreatDoor.Ln
open Go.Sx Go.RowKit
set_option maxRecDepth 20000
end Go.Proofs.YtppfniekcgnmjaaGreatDoor.Ln
namespace Go.Proofs.YtppfniekcgnmjaaGreatDoor.Pu
open Go.Sx Go.RowKit
set_option maxRecDepth 20000
theorem el26 : ElemIs Tryz.prog 26 3 1 8 := ⟨⟨_, (.int .i64 0), Tryz.underlying26, Tryz.type3, by kernel_rfl, by kernel_rfl, by kernel_rfl, by kernel_rfl, by decide⟩⟩
theorem fa72_0 : FieldIs Tryz.prog 72 0 0 1 false := ⟨⟨_, _, Tryz.underlying72, rfl, rfl, Tryz.sizeOf3, Tryz.isAgg3, by decide⟩⟩
theorem fa72_1 : FieldIs Tryz.prog 72 1 1 1 false := ⟨⟨_, _, Tryz.underlying72, rfl, rfl, Tryz.sizeOf3, Tryz.isAgg3, by decide⟩⟩
end Go.Proofs.YtppfniekcgnmjaaGreatDoor.Pu
namespace Go.Proofs.YtppfniekcgnmjaaGreatDoor.Pu
open Go.Sx Go.RowKit Um
set_option maxRecDepth 20000
theorem k_IndexD (l : List DueV) (A : Option Addr) (c : Nat) (f : Nat) (fi ca : Array Value) (q : DueV → Bool) (w : World) (hl : Rd w 2 encDu A l) (hen : ∀ args w, (callFunc f args).run Tryz.prog w = .ok (.enter f args) w) (hpp : ∀ x ∈ l, ∀ w1, Grow w w1 → Calls Tryz.prog f (fi ++ [.agg #[.int .i64 x.rank, .int .i64 x.amount]].toArray ++ ca) w1 (fun e w2 => e = .returned (.bool (q x)) ∧ Grow w1 w2)) : Calls Tryz.prog 112 #[.slice A l.length c, .func (.func f) fi ca] w (fun e w' => e = .returned (.int .i64 (fidx q l 0)) ∧ Grow w w') := by
  have hlen := hl.len
  refine enter_pure (args := [.slice A l.length c, .func (.func f) fi ca]) [sl (fun b => b < w.heap.size) 2 encDu A l] Tryz.func112 rfl (by rw [Tryz.ntmps112]; simp) (fun g hg => by simp at hg; subst hg; exact ⟨hl, fun _ h => h⟩) ?_
  refine cj_seq ?_
  refine cj_regionG (gj_step (y_assign rfl) rfl rfl rfl (gj_nil ?_))
  refine ej_th (cj_seq (cj_seq ?_))
  refine cj_regionG (gj_step (y_move rfl) rfl rfl rfl (gj_step (y_lenA Tryz.underlying73 rfl) rfl rfl rfl (gj_step (y_move rfl) rfl rfl rfl (gj_nil ?_))))
  refine ej_th (cj_block ?_)
  refine cj_lpic (X := Nat) [(0, _), (1, _), (7, _)] (fun k => k ≤ l.length ∧ fidx q (l.drop k) k = fidx q l 0) (fun k => [(8, .int .i64 (k : Nat))]) (fun k => l.length - k) 0 (⟨Nat.zero_le _, rfl⟩) ⟨rfl, rfl, rfl, rfl, trivial⟩ ?_
  rintro k ⟨hk, hsk⟩
  dsimp only [List.cons_append, List.nil_append]
  refine cj_seq ?_
  refine cj_regionG (gj_step (y_lss rfl rfl) rfl rfl rfl (gj_nil ?_))
  refine ej_th (cj_seq ?_)
  refine cj_cond rfl (fun h9 => ?_) (fun h9 => ?_)
  · have h9b := h9
    try simp only [sxb] at h9
    obtain ⟨x, hx⟩ : ∃ x, l[k]? = some x := ⟨_, List.getElem?_eq_getElem (by omega)⟩
    rw [fidx_drop q l k x hx] at hsk
    refine cj_skip (ej_th (cj_seq (cj_block (cj_seq ?_))))
    refine cj_regionG (gj_step (y_move rfl) rfl rfl rfl (gj_step (y_assign rfl) rfl rfl rfl (gj_nil ?_)))
    refine ej_th (cj_seq ?_)
    refine cj_regionG ?_
    refine gj_step (y_move rfl) rfl rfl rfl (gj_step (y_move rfl) rfl rfl rfl (gj_step (y_move rfl) rfl rfl rfl (gj_step (y_ixR (reads_sl) Tryz.underlying73 Tryz.sizeOf72 rfl rfl (⟨by omega, by omega⟩)) rfl rfl rfl (gj_step (y_ldW (reads_sl) Tryz.isAgg72 Tryz.sizeOf72 rfl (hx) (fun _ => rfl)) rfl rfl rfl (?_)))))
    refine gj_step (y_callV hen rfl rfl (fun w1 hp => hpp x (List.mem_of_getElem? hx) w1 hp.below)) rfl rfl rfl ?_
    refine gj_nil ?_
    refine ej_th ?_
    refine cj_cond rfl (fun h16 => ?_) (fun h16 => ?_)
    · have h16b := h16
      try simp only [sxb] at h16
      refine cj_seq ?_
      refine cj_regionG (gj_step (y_move rfl) rfl rfl rfl (gj_step (y_assign rfl) rfl rfl rfl (gj_nil ?_)))
      refine ej_th (cj_ret (ej_blk_ret (ej_then_ret (ej_then_ret (ej_blk_ret (ej_then_ret ?_))))))
      refine ej_ret1 rfl Tryz.results112 rfl (fun w' hp => ⟨?_, hp.below⟩)
      rw [← hsk, if_pos h16b]
    · have h16b := h16
      try simp only [sxb] at h16
      refine cj_skip (ej_blk (ej_th ?_))
      refine cj_regionG (gj_step (y_add rfl rfl (by omega)) rfl rfl rfl (gj_step (y_move rfl) rfl rfl rfl (gj_nil ?_)))
      exact ej_nx (k + 1) (by omega) ⟨by omega, by rw [← hsk, if_neg (by rw [h16b]; simp)]⟩ ⟨rfl, rfl, rfl, rfl, trivial⟩
  · have h9b := h9
    try simp only [sxb] at h9
    refine cj_exit (ej_then_exit (ej_then_exit (ej_blk_hit (ej_th (cj_seq ?_)))))
    refine cj_regionG (gj_step (y_assign rfl) rfl rfl rfl (gj_nil ?_))
    refine ej_th (cj_ret ?_)
    refine ej_ret1 rfl Tryz.results112 rfl (fun w' hp => ⟨?_, hp.below⟩)
    rw [← hsk, List.drop_of_length_le (by omega)]; rfl

theorem k_ContD (l : List DueV) (A : Option Addr) (c : Nat) (f : Nat) (fi ca : Array Value) (q : DueV → Bool) (w : World) (hl : Rd w 2 encDu A l) (hen : ∀ args w, (callFunc f args).run Tryz.prog w = .ok (.enter f args) w) (hpp : ∀ x ∈ l, ∀ w1, Grow w w1 → Calls Tryz.prog f (fi ++ [.agg #[.int .i64 x.rank, .int .i64 x.amount]].toArray ++ ca) w1 (fun e w2 => e = .returned (.bool (q x)) ∧ Grow w1 w2)) : Calls Tryz.prog 74 #[.slice A l.length c, .func (.func f) fi ca] w (fun e w' => e = .returned (.bool (l.any q)) ∧ Grow w w') := by
  refine enter_pure (args := [.slice A l.length c, .func (.func f) fi ca]) [sl (fun b => b < w.heap.size) 2 encDu A l] Tryz.func74 rfl (by rw [Tryz.ntmps74]; simp) (fun g hg => by simp at hg; subst hg; exact ⟨hl, fun _ h => h⟩) ?_
  refine cj_seq ?_
  refine cj_regionG (gj_step (y_assign rfl) rfl rfl rfl (gj_nil ?_))
  refine ej_th (cj_seq ?_)
  refine cj_regionG ?_
  refine gj_step (y_move rfl) rfl rfl rfl (gj_step (y_move rfl) rfl rfl rfl (?_))
  refine gj_step (y_call Tryz.call112 rfl (fun w hp => k_IndexD l A c f fi ca q w hp.rd hen (fun x hx w1 hg => hpp x hx w1 (grow_trans hp.below hg)))) rfl rfl rfl ?_
  refine gj_step (y_geq rfl rfl) rfl rfl rfl (gj_step (y_assign rfl) rfl rfl rfl (?_))
  refine gj_nil ?_
  refine ej_th (cj_ret ?_)
  refine ej_ret1 rfl Tryz.results74 rfl (fun w' hp => ⟨?_, hp.below⟩)
  rw [fidx_any q l]

theorem k_du1 (d : DueV) (w : World)  : Calls Tryz.prog 75 #[.agg #[.int .i64 d.rank, .int .i64 d.amount]] w (fun e w' => e = .returned (.bool (!(dueB d))) ∧ Grow w w') := by
  refine enter_pure (args := [.agg #[.int .i64 d.rank, .int .i64 d.amount]]) [] Tryz.func75 rfl (by rw [Tryz.ntmps75]; simp) (by simp) ?_
  refine cj_seq (cj_region ?_)
  refine oj_box rfl rfl rfl (fun b1 => ?_)
  refine oj_step (y_assign rfl) rfl rfl rfl ?_
  refine oj_nil ?_
  refine ej_th (cj_seq ?_)
  refine cj_regionG ?_
  refine gj_step (y_fa0 fa72_0 rfl) rfl rfl rfl (gj_step (y_load1 Tryz.isAgg3 rfl rfl) rfl rfl rfl (?_))
  refine gj_step (y_call Tryz.call35 rfl (fun w hp => k_within _ _ _ w)) rfl rfl rfl ?_
  refine gj_step (y_not rfl) rfl rfl rfl (gj_step (y_move rfl) rfl rfl rfl (?_))
  refine gj_g 4 7 11 rfl rfl rfl rfl (fun hg7 => gj_yes rfl rfl rfl (y_fa fa72_1 rfl) rfl rfl (gj_yes rfl rfl rfl (y_load1 Tryz.isAgg3 rfl rfl) rfl rfl (gj_yes rfl rfl rfl (y_call Tryz.call35 rfl (fun w hp => k_within _ _ _ w)) rfl rfl (gj_yes rfl rfl rfl (y_not rfl) rfl rfl (gj_nil rfl))))) ?_
  refine gj_step (y_or rfl rfl rfl) rfl rfl rfl (gj_step (y_assign rfl) rfl rfl rfl (?_))
  refine gj_nil ?_
  refine ej_th (cj_ret ?_)
  refine ej_ret1 rfl Tryz.results75 rfl (fun w' hp => ⟨?_, hp.below⟩)
  unfold dueB amtB; rw [Bool.not_and]

theorem k_dues (ds : List DueV) (A : Option Addr) (c : Nat) (w : World) (hl : Rd w 2 encDu A ds) : Calls Tryz.prog 41 #[.slice A ds.length c] w (fun e w' => e = .returned (.bool (duesB ds)) ∧ Grow w w') := by
  refine enter_pure (args := [.slice A ds.length c]) [sl (fun b => b < w.heap.size) 2 encDu A ds] Tryz.func41 rfl (by rw [Tryz.ntmps41]; simp) (fun g hg => by simp at hg; subst hg; exact ⟨hl, fun _ h => h⟩) ?_
  refine cj_seq ?_
  refine cj_regionG (gj_step (y_assign rfl) rfl rfl rfl (gj_nil ?_))
  refine ej_th (cj_seq ?_)
  refine cj_regionG ?_
  refine gj_step (y_move rfl) rfl rfl rfl (gj_step (y_lenA Tryz.underlying73 rfl) rfl rfl rfl (gj_step (y_leq rfl rfl) rfl rfl rfl (gj_step (y_move rfl) rfl rfl rfl (?_))))
  refine gj_g 3 6 9 rfl rfl rfl rfl (fun hg6 => gj_yes rfl rfl rfl (y_move rfl) rfl rfl (gj_yes rfl rfl rfl (y_call Tryz.call74 rfl (fun w hp => k_ContD ds A c 75 #[] #[] (fun x => !(dueB x)) w hp.rd Tryz.call75 (fun x hx w1 hg => k_du1 x w1))) rfl rfl (gj_yes rfl rfl rfl (y_not rfl) rfl rfl (gj_nil rfl)))) ?_
  refine gj_step (y_and rfl rfl rfl) rfl rfl rfl (gj_step (y_assign rfl) rfl rfl rfl (?_))
  refine gj_nil ?_
  refine ej_th (cj_ret ?_)
  refine ej_ret1 rfl Tryz.results41 rfl (fun w' hp => ⟨?_, hp.below⟩)
  unfold duesB; rw [any_not, Bool.not_not]; by_cases h : (ds.length : Int) ≤ 24
  · simp [h, show ds.length ≤ 24 by omega]
  · simp [h, show ¬ ds.length ≤ 24 by omega]

theorem k_has (r : Int) (d : DueV) (w : World)  : Calls Tryz.prog 78 #[.int .i64 r, .agg #[.int .i64 d.rank, .int .i64 d.amount]] w (fun e w' => e = .returned (.bool (d.rank == r)) ∧ Grow w w') := by
  refine enter_pure (args := [.int .i64 r, .agg #[.int .i64 d.rank, .int .i64 d.amount]]) [] Tryz.func78 rfl (by rw [Tryz.ntmps78]; simp) (by simp) ?_
  refine cj_seq (cj_region ?_)
  refine oj_box rfl rfl rfl (fun b3 => ?_)
  refine oj_step (y_assign rfl) rfl rfl rfl ?_
  refine oj_nil ?_
  refine ej_th (cj_seq ?_)
  refine cj_regionG (gj_step (y_fa0 fa72_0 rfl) rfl rfl rfl (gj_step (y_load1 Tryz.isAgg3 rfl rfl) rfl rfl rfl (gj_step (y_move rfl) rfl rfl rfl (gj_step (y_eql rfl rfl) rfl rfl rfl (gj_step (y_assign rfl) rfl rfl rfl (gj_nil ?_))))))
  refine ej_th (cj_ret ?_)
  exact ej_ret1 rfl Tryz.results78 rfl (fun w' hp => ⟨rfl, hp.below⟩)

theorem k_chosen (l : List DueV) (A : Option Addr) (c : Nat) (f : Nat) (fi ca : Array Value) (q : DueV → Bool) (w : World) (hl : Rd w 2 encDu A l) (hb : l.length ≤ 1000) (hen : ∀ args w, (callFunc f args).run Tryz.prog w = .ok (.enter f args) w) (hpp : ∀ x ∈ l, ∀ w1, Grow w w1 → Calls Tryz.prog f (fi ++ [.agg #[.int .i64 x.rank, .int .i64 x.amount]].toArray ++ ca) w1 (fun e w2 => e = .returned (.bool (q x)) ∧ Grow w1 w2)) : Calls Tryz.prog 77 #[.slice A l.length c, .func (.func f) fi ca] w (fun e w' => ∃ A c, e = .returned (.slice A (natsI (chosenL q l)).length c) ∧ Grow w w' ∧ Res w w' 1 enInt A (natsI (chosenL q l))) := by
  have hlen := hl.len
  refine enter_pure (args := [.slice A l.length c, .func (.func f) fi ca]) [sl (fun b => b < w.heap.size) 2 encDu A l] Tryz.func77 rfl (by rw [Tryz.ntmps77]; simp) (fun g hg => by simp at hg; subst hg; exact ⟨hl, fun _ h => h⟩) ?_
  refine cj_seq ?_
  refine cj_regionG (gj_step (y_assign rfl) rfl rfl rfl (gj_nil ?_))
  refine ej_th (cj_seq ?_)
  refine cj_regionG (gj_step (y_assign rfl) rfl rfl rfl (gj_nil ?_))
  refine ej_th (cj_seq (cj_seq ?_))
  refine cj_regionG (gj_step (y_move rfl) rfl rfl rfl (gj_step (y_lenA Tryz.underlying73 rfl) rfl rfl rfl (gj_step (y_move rfl) rfl rfl rfl (gj_nil ?_))))
  refine ej_th (cj_block ?_)
  refine cj_ownNil 3 1 enInt ?_
  refine cj_lpi (X := Nat × Option Addr × Nat × List Int) [(1, _), (4, _), (8, _), (9, _)] (fun ⟨k, A1, c1, xs⟩ => k ≤ l.length ∧ xs = natsI (chosenL q (l.take k)) ∧ xs.length ≤ k) (fun ⟨k, A1, c1, xs⟩ => [(5, .slice A1 xs.length c1), (10, .int .i64 (k : Nat))]) (fun ⟨k, A1, c1, xs⟩ => [ow 3 1 enInt A1 c1 xs]) (fun ⟨k, A1, c1, xs⟩ => [sl (fun b => b < w.heap.size) 2 encDu A l]) (fun ⟨k, A1, c1, xs⟩ => l.length - k) (0, none, 0, []) (⟨Nat.zero_le _, rfl, Nat.le_refl _⟩) ⟨rfl, rfl, rfl, rfl, rfl, rfl, trivial⟩ ?_
  rintro ⟨k, A1, c1, xs⟩ ⟨hk, hxs, hxl⟩
  dsimp only [List.cons_append, List.nil_append]
  refine cj_seq ?_
  refine cj_regionG (gj_step (y_lss rfl rfl) rfl rfl rfl (gj_nil ?_))
  refine ej_th (cj_seq ?_)
  refine cj_cond rfl (fun h11 => ?_) (fun h11 => ?_)
  · have h11b := h11
    try simp only [sxb] at h11
    obtain ⟨x, hx⟩ : ∃ x, l[k]? = some x := ⟨_, List.getElem?_eq_getElem (by omega)⟩
    refine cj_skip (ej_th (cj_seq (cj_block (cj_seq (cj_region ?_)))))
    refine oj_step (y_move rfl) rfl rfl rfl ?_
    refine oj_step (y_ixR (reads_sl) Tryz.underlying73 Tryz.sizeOf72 rfl rfl (⟨by omega, by omega⟩)) rfl rfl rfl ?_
    refine oj_step (y_ldW (reads_sl) Tryz.isAgg72 Tryz.sizeOf72 rfl (hx) (fun _ => rfl)) rfl rfl rfl ?_
    refine oj_alloc Tryz.zeroValue72 rfl rfl (fun b7 => ?_)
    refine oj_step (y_assign rfl) rfl rfl rfl ?_
    refine oj_store rfl rfl rfl rfl Tryz.sizeOf72 rfl ?_
    refine oj_nil ?_
    refine ej_th (cj_seq ?_)
    refine cj_regionG ?_
    refine gj_step (y_move rfl) rfl rfl rfl (gj_step (y_loadN Tryz.isAgg72 Tryz.sizeOf72 rfl) rfl rfl rfl (?_))
    refine gj_step (y_callV hen rfl rfl (fun w1 hp => hpp x (List.mem_of_getElem? hx) w1 hp.below)) rfl rfl rfl ?_
    refine gj_nil ?_
    refine ej_th ?_
    refine cj_cond rfl (fun h17 => ?_) (fun h17 => ?_)
    · have h17b := h17
      try simp only [sxb] at h17
      refine cj_region ?_
      refine oj_step (y_move rfl) rfl rfl rfl ?_
      refine oj_step (y_move rfl) rfl rfl rfl ?_
      refine oj_buildSlice (cs := [.int .i64 (k : Nat)]) [.int .i64 0] Tryz.underlying26 Tryz.sizeOf3 Tryz.zeroValue3 rfl rfl (by kernel_rfl) (by kernel_rfl) rfl (fun b20 => ?_)
      refine oj_append  el26 (fun _ => rfl) enInt_one rfl rfl rfl (reads_lit (sz := 1) [((k : Nat) : Int)] (fun _ => rfl) rfl) (by unfold maxLen; simp only [List.length_append, List.length_cons, List.length_nil]; omega) (by simp only [List.length_append, List.length_cons, List.length_nil]; omega) rfl (fun A21 c21 => ?_)
      refine oj_step (y_assign rfl) rfl rfl rfl ?_
      refine oj_nil ?_
      refine ej_blk (ej_th ?_)
      refine cj_regionG (gj_step (y_add rfl rfl (by omega)) rfl rfl rfl (gj_step (y_move rfl) rfl rfl rfl (gj_nil ?_)))
      exact ej_nx (k + 1, A21, c21, xs ++ [((k : Nat) : Int)]) (by simp only; omega) ⟨by first | omega | (simp only; omega), by rw [hxs, chosen_snoc q hx, if_pos h17b]; simp [natsI], by simp only [List.length_append, List.length_cons, List.length_nil]; omega⟩ ⟨rfl, rfl, rfl, rfl, rfl, rfl, trivial⟩
    · have h17b := h17
      try simp only [sxb] at h17
      refine cj_skip (ej_blk (ej_th ?_))
      refine cj_regionG (gj_step (y_add rfl rfl (by omega)) rfl rfl rfl (gj_step (y_move rfl) rfl rfl rfl (gj_nil ?_)))
      exact ej_nx (k + 1, A1, c1, xs) (by simp only; omega) ⟨by first | omega | (simp only; omega), by rw [hxs, chosen_snoc q hx, if_neg (by rw [h17b]; simp), List.append_nil], by simp only; omega⟩ ⟨rfl, rfl, rfl, rfl, rfl, rfl, trivial⟩
  · have h11b := h11
    try simp only [sxb] at h11
    refine cj_exit (ej_then_exit (ej_then_exit (ej_blk_hit (ej_th (cj_seq ?_)))))
    refine cj_regionG (gj_step (y_move rfl) rfl rfl rfl (gj_step (y_assign rfl) rfl rfl rfl (gj_nil ?_)))
    refine ej_th (cj_ret ?_)
    have hkl : k = l.length := by omega
    subst hkl
    rw [List.take_length] at hxs
    rw [← hxs]
    exact ej_ret1 rfl Tryz.results77 rfl (fun w' hp => ⟨A1, c1, rfl, hp.below, hp.res enInt_len (by unfold maxLen; omega)⟩)

set_option maxHeartbeats 1000000 in
theorem k_spread (ds : List DueV) (A : Option Addr) (c : Nat) (left : Int) (w : World) (hl : Rd w 2 encDu A ds) (hdu : duesB ds = true) (hleft : 0 ≤ left ∧ left ≤ 67108864) : Calls Tryz.prog 43 #[.slice A ds.length c, .int .i64 left] w (fun e w' => ∃ A c, e = .returned (.tuple #[.slice A (spreadL ds left).1.length c, .int .i64 (spreadL ds left).2]) ∧ Grow w w' ∧ Res w w' 1 enInt A (spreadL ds left).1) := by
  have hlen := hl.len
  obtain ⟨h24, hdb⟩ := dues_t hdu
  have hok := dues_ok hdu
  refine enter_pure (args := [.slice A ds.length c, .int .i64 left]) [sl (fun b => b < w.heap.size) 2 encDu A ds] Tryz.func43 rfl (by rw [Tryz.ntmps43]; simp) (fun g hg => by simp at hg; subst hg; exact ⟨hl, fun _ h => h⟩) ?_
  refine cj_seq ?_
  refine cj_regionG (gj_step (y_assign rfl) rfl rfl rfl (gj_step (y_assign rfl) rfl rfl rfl (gj_nil ?_)))
  refine ej_th (cj_seq (cj_region ?_))
  refine oj_step (y_move rfl) rfl rfl rfl ?_
  refine oj_step (y_lenA Tryz.underlying73 rfl) rfl rfl rfl ?_
  refine oj_makeSlice1 (n := ds.length) Tryz.underlying26 Tryz.type3 rfl rfl rfl rfl rfl (by show 8 * _ ≤ _; omega) (by omega) rfl (fun b17 => ?_)
  refine oj_litOw (b := b17) (e := 3) (c := ds.length) (sz := 1) (enc := enInt) (List.replicate (ds.length) (0 : Int)) (by simp) (replicate_enInt _) (by simp) (by unfold maxLen; omega) ?_
  refine oj_step (y_assign rfl) rfl rfl rfl ?_
  refine oj_nil ?_
  refine ej_th (cj_seq (cj_seq ?_))
  refine cj_regionG (gj_step (y_move rfl) rfl rfl rfl (gj_nil ?_))
  refine ej_th (cj_block ?_)
  refine cj_lpi (X := Nat × List Int × Int) [(0, _), (4, _), (5, _), (6, _)] (fun ⟨r, paid, lf⟩ => r ≤ 10 ∧ SpInv ds (r : Nat) left (paid, lf) ∧ spreadF ds (10 - r) (paid, lf) = spreadL ds left) (fun ⟨r, paid, lf⟩ => [(1, .int .i64 lf), (18, .int .i64 (r : Nat))]) (fun ⟨r, paid, lf⟩ => [ow 3 1 enInt (some ⟨b17, 0, none⟩) ds.length (paid)]) (fun ⟨r, paid, lf⟩ => [sl (fun b => b < w.heap.size) 2 encDu A ds]) (fun ⟨r, paid, lf⟩ => 10 - r) (0, List.replicate ds.length 0, left) (⟨Nat.zero_le _, sp_start hleft.1, rfl⟩) ⟨rfl, rfl, rfl, rfl, rfl, rfl, trivial⟩ ?_
  rintro ⟨r, paid, lf⟩ ⟨hr, hsi, hsp⟩
  dsimp only [List.cons_append, List.nil_append]
  refine cj_seq ?_
  refine cj_regionG (gj_step (y_lss rfl rfl) rfl rfl rfl (gj_nil ?_))
  refine ej_th (cj_seq ?_)
  refine cj_cond rfl (fun h19 => ?_) (fun h19 => ?_)
  · have h19b := h19
    try simp only [sxb] at h19
    have hhl : (hereL ds (r : Nat)).length ≤ ds.length := chosen_len _ _
    have hl0 : 0 ≤ lf := hsi.left
    have hl1 : lf ≤ 67108864 := by have h9 := hsi.sum; have h8 := sumI_nonneg (l := paid) (fun x hx => by obtain ⟨j, hj, rfl⟩ := List.mem_iff_getElem.1 hx; have h7 := hsi.nn j; rwa [gd_lt hj] at h7); simp only at h9; omega
    refine cj_skip (ej_th (cj_seq (cj_block (cj_seq ?_))))
    refine cj_regionG (gj_step (y_move rfl) rfl rfl rfl (gj_step (y_assign rfl) rfl rfl rfl (gj_nil ?_)))
    refine ej_th (cj_seq (cj_region ?_))
    refine oj_step (y_move rfl) rfl rfl rfl ?_
    refine oj_step (y_move rfl) rfl rfl rfl ?_
    refine oj_step (y_makeFunc rfl rfl) rfl rfl rfl ?_
    refine oj_callS (fun A c => .slice A (natsI (hereL ds (r : Nat))).length c) 1 enInt (natsI (hereL ds (r : Nat))) Tryz.call77 rfl (fun w hp => k_chosen ds A c 78 #[.int .i64 (r : Nat)] #[] (fun d : DueV => d.rank == (r : Nat)) w hp.rd (by omega) Tryz.call78 (fun x hx w1 hg => k_has (r : Nat) x w1)) rfl (fun A24 c24 fp24 hfp24 => ?_)
    refine oj_step (y_assign rfl) rfl rfl rfl ?_
    refine oj_nil ?_
    refine ej_th (cj_seq ?_)
    refine cj_regionG (gj_step (y_assign rfl) rfl rfl rfl (gj_nil ?_))
    refine ej_th (cj_seq (cj_seq ?_))
    refine cj_regionG (gj_step (y_move rfl) rfl rfl rfl (gj_step (y_lenA Tryz.underlying26 rfl) rfl rfl rfl (gj_step (y_move rfl) rfl rfl rfl (gj_nil ?_))))
    refine ej_th (cj_block ?_)
    rw [nats_len]
    refine cj_ownNil 3 1 enInt ?_
    refine cj_lpi (X := Nat × Option Addr × Nat × List Int) [(1, _), (18, _), (0, _), (4, _), (5, _), (6, _), (8, _), (25, _), (26, _)] (fun ⟨k, A1, c1, xs⟩ => k ≤ (hereL ds (r : Nat)).length ∧ xs = (ownL ds (r : Nat)).take k ∧ xs.length = k) (fun ⟨k, A1, c1, xs⟩ => [(9, .slice A1 xs.length c1), (27, .int .i64 (k : Nat))]) (fun ⟨k, A1, c1, xs⟩ => [ow 3 1 enInt A1 c1 xs, ow 3 1 enInt (some ⟨b17, 0, none⟩) ds.length (paid)]) (fun ⟨k, A1, c1, xs⟩ => [sl fp24 1 enInt A24 (natsI (hereL ds (r : Nat))), sl (fun b => b < w.heap.size) 2 encDu A ds]) (fun ⟨k, A1, c1, xs⟩ => (hereL ds (r : Nat)).length - k) (0, none, 0, []) (⟨Nat.zero_le _, rfl, rfl⟩) ⟨rfl, rfl, rfl, rfl, rfl, rfl, rfl, rfl, rfl, rfl, rfl, trivial⟩ ?_
    rintro ⟨k, A1, c1, xs⟩ ⟨hk, hxs, hxl⟩
    dsimp only [List.cons_append, List.nil_append]
    refine cj_seq ?_
    refine cj_regionG (gj_step (y_lss rfl rfl) rfl rfl rfl (gj_nil ?_))
    refine ej_th (cj_seq ?_)
    refine cj_cond rfl (fun h28 => ?_) (fun h28 => ?_)
    · have h28b := h28
      try simp only [sxb] at h28
      obtain ⟨i, hi⟩ : ∃ i, (hereL ds (r : Nat))[k]? = some i := ⟨_, List.getElem?_eq_getElem (by omega)⟩
      have hi2 := nats_get hi
      have hil := (chosen_mem (List.mem_of_getElem? hi)).1
      obtain ⟨d, hd⟩ : ∃ d, ds[i]? = some d := ⟨_, List.getElem?_eq_getElem (by omega)⟩
      refine cj_skip (ej_th (cj_seq (cj_block (cj_seq ?_))))
      refine cj_regionG (gj_step (y_ixRm (m := (hereL ds (r : Nat)).length) (xs := natsI (hereL ds (r : Nat))) (nats_len _).symm reads_sl Tryz.underlying26 Tryz.sizeOf3 rfl rfl ⟨by omega, by omega⟩) rfl rfl rfl (gj_step (y_ld0 (reads_sl) Tryz.isAgg3 rfl (hi2) rfl) rfl rfl rfl (gj_step (y_assign rfl) rfl rfl rfl (gj_nil ?_))))
      refine ej_th (cj_region ?_)
      refine oj_step (y_move rfl) rfl rfl rfl ?_
      refine oj_step (y_move rfl) rfl rfl rfl ?_
      refine oj_step (y_move rfl) rfl rfl rfl ?_
      refine oj_step (y_ixR (reads_sl) Tryz.underlying73 Tryz.sizeOf72 rfl rfl (⟨by omega, by omega⟩)) rfl rfl rfl ?_
      refine oj_step (y_faE fa72_1 rfl) rfl rfl rfl ?_
      refine oj_step (y_ld1 (reads_sl) Tryz.isAgg3 rfl (hd) rfl) rfl rfl rfl ?_
      refine oj_buildSlice (cs := [.int .i64 d.amount]) [.int .i64 0] Tryz.underlying26 Tryz.sizeOf3 Tryz.zeroValue3 rfl rfl (by kernel_rfl) (by kernel_rfl) rfl (fun b37 => ?_)
      refine oj_append  el26 (fun _ => rfl) enInt_one rfl rfl rfl (reads_lit (sz := 1) [d.amount] (fun _ => rfl) rfl) (by unfold maxLen; simp only [List.length_append, List.length_cons, List.length_nil]; omega) (by simp only [List.length_append, List.length_cons, List.length_nil]; omega) rfl (fun A38 c38 => ?_)
      refine oj_step (y_assign rfl) rfl rfl rfl ?_
      refine oj_nil ?_
      refine ej_blk (ej_th ?_)
      refine cj_regionG (gj_step (y_add rfl rfl (by omega)) rfl rfl rfl (gj_step (y_move rfl) rfl rfl rfl (gj_nil ?_)))
      exact ej_nx (k + 1, A38, c38, xs ++ [d.amount]) (by simp only; omega) ⟨by first | omega | (simp only; omega), by rw [hxs, List.take_add_one, own_get hi hd]; rfl, by simp only [List.length_append, List.length_cons, List.length_nil]; omega⟩ ⟨rfl, rfl, rfl, rfl, rfl, rfl, rfl, rfl, rfl, rfl, rfl, trivial⟩
    · have h28b := h28
      try simp only [sxb] at h28
      refine cj_exit (ej_then_exit (ej_then_exit (ej_blk_hit (ej_th (cj_seq ?_)))))
      have hke : k = (hereL ds (r : Nat)).length := by omega
      subst hke
      rw [List.take_of_length_le (by rw [own_len]; exact Nat.le_refl _)] at hxs
      have hxn : ∀ x ∈ xs, 0 ≤ x := by rw [hxs]; exact own_nn hok _
      have hxm : ∀ x ∈ xs, x ≤ 67108864 := by rw [hxs]; exact own_le (by decide) (fun d hd => (hdb d hd).2.2)
      have hxs2 : sumI xs ≤ 4611686018427387904 := by have h9 := sumI_le_mul hxm; omega
      refine cj_frzS (O' := [ow 3 1 enInt (some ⟨b17, 0, none⟩) ds.length (paid)]) (ow 3 1 enInt A1 c1 xs) (sl (ow 3 1 enInt A1 c1 xs).fp 1 enInt A1 xs) (fun w hp => owSl (hp.own _ (List.mem_cons_self ..)).1 enInt_len (by unfold maxLen; omega) (fun _ h => h)) (fun b hb => .inl hb) ?_
      refine cj_regionG ?_
      refine gj_step (y_move rfl) rfl rfl rfl (?_)
      refine gj_step (y_call Tryz.call73 rfl (fun w hp => k_sum xs A1 c1 w hp.rd hxn hxs2)) rfl rfl rfl ?_
      refine gj_step (y_assign rfl) rfl rfl rfl (?_)
      refine gj_nil ?_
      refine ej_th (cj_seq (cj_seq ?_))
      refine cj_regionG (gj_step (y_move rfl) rfl rfl rfl (gj_step (y_eql rfl rfl) rfl rfl rfl (gj_nil ?_)))
      refine ej_th ?_
      refine cj_cond rfl (fun h43 => ?_) (fun h43 => ?_)
      · have h43b := h43
        try simp only [sxb] at h43
        have hz : sumI (ownL ds (r : Nat)) = 0 := by rw [← hxs]; simpa using h43b
        have he2 : rankS ds (paid, lf) (r : Nat) = (paid, lf) := by unfold rankS; rw [if_pos hz]
        have hsi2 : SpInv ds ((r + 1 : Nat) : Int) left (paid, lf) := by have h9 := hsi.step hok; rw [he2] at h9; exact h9
        refine cj_exit (ej_then_exit (ej_blk_hit (ej_th ?_)))
        refine cj_regionG (gj_step (y_add rfl rfl (by omega)) rfl rfl rfl (gj_step (y_move rfl) rfl rfl rfl (gj_nil ?_)))
        rw [show ((r : Nat) : Int) + 1 = ((r + 1 : Nat) : Int) by omega]
        exact ej_nx (r + 1, paid, lf) (by first | omega | (simp only; omega)) ⟨by first | omega | (simp only; omega), hsi2, by rw [spF_step (by omega), he2] at hsp; exact hsp⟩ ⟨rfl, rfl, rfl, rfl, rfl, rfl, trivial⟩
      · have h43b := h43
        try simp only [sxb] at h43
        have hz : ¬ sumI (ownL ds (r : Nat)) = 0 := by rw [← hxs]; simpa using h43b
        refine cj_skip (ej_th ?_)
        refine cj_cuti (X := Option Addr × Nat × (Nat → Prop) × List Int) [(1, _), (18, _), (0, _), (4, _), (5, _), (6, _), (8, _), (12, _)] ⟨rfl, rfl, rfl, rfl, rfl, rfl, rfl, rfl, trivial⟩ (fun ⟨A9, c9, fp9, ys⟩ => ys = gotL ds (r : Nat) lf) (fun ⟨A9, c9, fp9, ys⟩ => [(9, .slice A9 ys.length c9)]) (fun ⟨A9, c9, fp9, ys⟩ => [ow 3 1 enInt (some ⟨b17, 0, none⟩) ds.length (paid)]) (fun ⟨A9, c9, fp9, ys⟩ => [sl fp9 1 enInt A9 ys, sl fp24 1 enInt A24 (natsI (hereL ds (r : Nat))), sl (fun b => b < w.heap.size) 2 encDu A ds]) ?_ ?_
        · refine cj_seq ?_
          refine cj_regionG (gj_step (y_move rfl) rfl rfl rfl (gj_step (y_move rfl) rfl rfl rfl (gj_step (y_lss rfl rfl) rfl rfl rfl (gj_nil ?_))))
          refine ej_th ?_
          refine cj_cond rfl (fun h46 => ?_) (fun h46 => ?_)
          · have h46b := h46
            try simp only [sxb] at h46
            refine cj_region ?_
            refine oj_step (y_move rfl) rfl rfl rfl ?_
            refine oj_step (y_move rfl) rfl rfl rfl ?_
            refine oj_callS (fun A c => .slice A (shareL xs lf).length c) 1 enInt (shareL xs lf) Tryz.call42 rfl (fun w hp => k_share xs A1 c1 lf w hp.rd (by omega) (fun x hx => ⟨hxn x hx, hxm x hx⟩) (by have h9 := sumI_nonneg hxn; simp at h43; omega) ⟨by omega, by omega⟩) rfl (fun A49 c49 fp49 hfp49 => ?_)
            refine oj_step (y_assign rfl) rfl rfl rfl ?_
            refine oj_nil ?_
            exact ej_ct (A49, c49, fp49, shareL xs lf) (by unfold gotL; rw [← hxs, if_pos (by omega)]) ⟨rfl, rfl, rfl, rfl, rfl, rfl, rfl, rfl, rfl, trivial⟩
          · have h46b := h46
            try simp only [sxb] at h46
            refine cj_skip ?_
            exact ej_ct (A1, c1, (ow 3 1 enInt A1 c1 xs).fp, xs) (by unfold gotL; rw [← hxs, if_neg (by omega)]) ⟨rfl, rfl, rfl, rfl, rfl, rfl, rfl, rfl, rfl, trivial⟩
        · rintro ⟨A9, c9, fp9, ys⟩ hys
          dsimp only [List.cons_append, List.nil_append]
          have hyl : ys.length = (hereL ds (r : Nat)).length := by rw [hys]; exact got_len hok hsi.left hz
          refine cj_seq (cj_seq ?_)
          refine cj_regionG (gj_step (y_move rfl) rfl rfl rfl (gj_step (y_lenA Tryz.underlying26 rfl) rfl rfl rfl (gj_step (y_move rfl) rfl rfl rfl (gj_nil ?_))))
          refine ej_th (cj_block ?_)
          refine cj_lpi (X := Nat × List Int) [(9, _), (1, _), (18, _), (0, _), (4, _), (5, _), (6, _), (12, _), (50, _), (51, _)] (fun ⟨k, pd⟩ => k ≤ (hereL ds (r : Nat)).length ∧ pd = putL paid ((hereL ds (r : Nat)).take k) (ys.take k) ∧ pd.length = ds.length) (fun ⟨k, pd⟩ => [(52, .int .i64 (k : Nat))]) (fun ⟨k, pd⟩ => [ow 3 1 enInt (some ⟨b17, 0, none⟩) ds.length (pd)]) (fun ⟨k, pd⟩ => [sl fp9 1 enInt A9 ys, sl fp24 1 enInt A24 (natsI (hereL ds (r : Nat))), sl (fun b => b < w.heap.size) 2 encDu A ds]) (fun ⟨k, pd⟩ => (hereL ds (r : Nat)).length - k) (0, paid) (⟨Nat.zero_le _, rfl, hsi.len⟩) ⟨rfl, rfl, rfl, rfl, rfl, rfl, rfl, rfl, rfl, rfl, rfl, trivial⟩ ?_
          rintro ⟨k, pd⟩ ⟨hk2, hpd, hpl⟩
          dsimp only [List.cons_append, List.nil_append]
          refine cj_seq ?_
          refine cj_regionG (gj_step (y_lss rfl rfl) rfl rfl rfl (gj_nil ?_))
          refine ej_th (cj_seq ?_)
          refine cj_cond rfl (fun h53 => ?_) (fun h53 => ?_)
          · have h53b := h53
            try simp only [sxb] at h53
            obtain ⟨i, hi⟩ : ∃ i, (hereL ds (r : Nat))[k]? = some i := ⟨_, List.getElem?_eq_getElem (by omega)⟩
            have hi2 := nats_get hi
            have hil := (chosen_mem (List.mem_of_getElem? hi)).1
            obtain ⟨v, hv⟩ : ∃ v, ys[k]? = some v := ⟨_, List.getElem?_eq_getElem (by omega)⟩
            refine cj_skip (ej_th (cj_seq (cj_block (cj_seq ?_))))
            refine cj_regionG (gj_step (y_move rfl) rfl rfl rfl (gj_step (y_ixRm (m := (hereL ds (r : Nat)).length) (xs := natsI (hereL ds (r : Nat))) (nats_len _).symm reads_sl Tryz.underlying26 Tryz.sizeOf3 rfl rfl ⟨by omega, by omega⟩) rfl rfl rfl (gj_step (y_ld0 (reads_sl) Tryz.isAgg3 rfl (hi2) rfl) rfl rfl rfl (gj_step (y_assign rfl) rfl rfl rfl (gj_step (y_assign rfl) rfl rfl rfl (gj_nil ?_))))))
            refine ej_th (cj_region ?_)
            refine oj_step (y_move rfl) rfl rfl rfl ?_
            refine oj_step (y_move rfl) rfl rfl rfl ?_
            refine oj_step (y_move rfl) rfl rfl rfl ?_
            refine oj_step (y_move rfl) rfl rfl rfl ?_
            refine oj_step (y_ixR (reads_sl) Tryz.underlying26 Tryz.sizeOf3 rfl rfl (⟨by omega, by omega⟩)) rfl rfl rfl ?_
            refine oj_step (y_ld0 (reads_sl) Tryz.isAgg3 rfl (hv) rfl) rfl rfl rfl ?_
            refine oj_step (y_ixRm (m := ds.length) (xs := pd) hpl.symm (reads_ow enInt_len) Tryz.underlying26 Tryz.sizeOf3 rfl rfl ⟨by omega, by omega⟩) rfl rfl rfl ?_
            refine oj_storeE (i := i) (u := v) rfl rfl rfl rfl Tryz.sizeOf3 (fun _ => rfl) (by rw [hpl]; omega) ?_
            refine oj_nil ?_
            refine ej_blk (ej_th ?_)
            refine cj_regionG (gj_step (y_add rfl rfl (by omega)) rfl rfl rfl (gj_step (y_move rfl) rfl rfl rfl (gj_nil ?_)))
            exact ej_nx (k + 1, pd.set i v) (by simp only; omega) ⟨by first | omega | (simp only; omega), by rw [hpd, List.take_add_one, hi, List.take_add_one, hv, Option.toList_some, Option.toList_some, putL_snoc _ _ _ _ _ (by rw [List.length_take, List.length_take, hyl])], by rw [List.length_set, hpl]⟩ ⟨rfl, rfl, rfl, rfl, rfl, rfl, rfl, rfl, rfl, rfl, rfl, trivial⟩
          · have h53b := h53
            try simp only [sxb] at h53
            have hk3 : k = (hereL ds (r : Nat)).length := by omega
            subst hk3
            rw [List.take_length, List.take_of_length_le (by omega)] at hpd
            have he2 : rankS ds (paid, lf) (r : Nat) = (pd, lf - min lf (sumI xs)) := by unfold rankS; rw [if_neg hz, ← hxs, hpd, hys]
            have hsi2 : SpInv ds ((r + 1 : Nat) : Int) left (pd, lf - min lf (sumI xs)) := by have h9 := hsi.step hok; rw [he2] at h9; exact h9
            have hx0 := sumI_nonneg hxn
            refine cj_exit (ej_then_exit (ej_then_exit (ej_blk_hit (ej_th ?_))))
            refine cj_regionG (gj_step (y_move rfl) rfl rfl rfl (gj_step (y_move rfl) rfl rfl rfl (gj_step (y_move rfl) rfl rfl rfl (gj_step (y_min rfl rfl) rfl rfl rfl (gj_step (y_sub rfl rfl (by omega)) rfl rfl rfl (gj_step (y_assign rfl) rfl rfl rfl (gj_nil ?_)))))))
            refine ej_blk (ej_th ?_)
            refine cj_regionG (gj_step (y_add rfl rfl (by omega)) rfl rfl rfl (gj_step (y_move rfl) rfl rfl rfl (gj_nil ?_)))
            rw [show ((r : Nat) : Int) + 1 = ((r + 1 : Nat) : Int) by omega]
            exact ej_nx (r + 1, pd, lf - min lf (sumI xs)) (by first | omega | (simp only; omega)) ⟨by first | omega | (simp only; omega), hsi2, by rw [spF_step (by omega), he2] at hsp; exact hsp⟩ ⟨rfl, rfl, rfl, rfl, rfl, rfl, trivial⟩
  · have h19b := h19
    try simp only [sxb] at h19
    refine cj_exit (ej_then_exit (ej_then_exit (ej_blk_hit (ej_th (cj_seq ?_)))))
    refine cj_regionG (gj_step (y_move rfl) rfl rfl rfl (gj_step (y_move rfl) rfl rfl rfl (gj_step (y_assign rfl) rfl rfl rfl (gj_step (y_assign rfl) rfl rfl rfl (gj_nil ?_)))))
    refine ej_th (cj_ret ?_)
    have h10 : r = 10 := by omega
    subst h10
    rw [show 10 - 10 = 0 from rfl, spreadF] at hsp
    have hpl : paid.length = ds.length := hsi.len
    rw [← hpl, ← hsp]
    exact ej_ret2 rfl Tryz.results43 rfl rfl (fun w' hp => ⟨_, _, rfl, hp.below, hp.res enInt_len (show paid.length ≤ maxLen by unfold maxLen; omega)⟩)

end Go.Proofs.YtppfniekcgnmjaaGreatDoor.Pu
namespace Go.Proofs.YtppfniekcgnmjaaGreatDoor.Pu
open Go.Sx Go.RowKit
set_option maxRecDepth 20000
theorem el68 : ElemIs Tryz.prog 68 79 3 40 := ⟨⟨_, (.agg #[.int .i64 0, .slice none 0 0, .int .i64 0]), Tryz.underlying68, Tryz.type79, by kernel_rfl, by kernel_rfl, by kernel_rfl, by kernel_rfl, by decide⟩⟩
theorem fa75_0 : FieldIs Tryz.prog 75 0 0 1 false := ⟨⟨_, _, Tryz.underlying75, rfl, rfl, Tryz.sizeOf9, Tryz.isAgg9, by decide⟩⟩
theorem fa75_1 : FieldIs Tryz.prog 75 1 1 1 false := ⟨⟨_, _, Tryz.underlying75, rfl, rfl, Tryz.sizeOf3, Tryz.isAgg3, by decide⟩⟩
theorem fa75_2 : FieldIs Tryz.prog 75 2 2 1 false := ⟨⟨_, _, Tryz.underlying75, rfl, rfl, Tryz.sizeOf73, Tryz.isAgg73, by decide⟩⟩
theorem st79 : StructIs Tryz.prog 79 [(0, 1), (1, 1), (2, 1)] [.int .i64 0, .slice none 0 0, .int .i64 0] := ⟨⟨_, Tryz.underlying79, fun w => by simp [Tryz.sizeOf26, Tryz.sizeOf3], Tryz.zeroValue79⟩⟩
end Go.Proofs.YtppfniekcgnmjaaGreatDoor.Pu
namespace Go.Proofs.YtppfniekcgnmjaaGreatDoor.Pu
open Go.Sx Go.RowKit Um
set_option maxRecDepth 20000
theorem k_IndexP (l : List PartV) (A : Option Addr) (c : Nat) (f : Nat) (fi ca : Array Value) (q : PartV → Bool) (w : World) (hl : Rd w 3 encPa A l) (hen : ∀ args w, (callFunc f args).run Tryz.prog w = .ok (.enter f args) w) (hpp : ∀ x ∈ l, ∀ w1, Grow w w1 → Calls Tryz.prog f (fi ++ [.agg #[.string x.name, .int .i64 x.value, .slice x.A x.dues.length x.c]].toArray ++ ca) w1 (fun e w2 => e = .returned (.bool (q x)) ∧ Grow w1 w2)) : Calls Tryz.prog 71 #[.slice A l.length c, .func (.func f) fi ca] w (fun e w' => e = .returned (.int .i64 (fidx q l 0)) ∧ Grow w w') := by
  have hlen := hl.len
  refine enter_pure (args := [.slice A l.length c, .func (.func f) fi ca]) [sl (fun b => b < w.heap.size) 3 encPa A l] Tryz.func71 rfl (by rw [Tryz.ntmps71]; simp) (fun g hg => by simp at hg; subst hg; exact ⟨hl, fun _ h => h⟩) ?_
  refine cj_seq ?_
  refine cj_regionG (gj_step (y_assign rfl) rfl rfl rfl (gj_nil ?_))
  refine ej_th (cj_seq (cj_seq ?_))
  refine cj_regionG (gj_step (y_move rfl) rfl rfl rfl (gj_step (y_lenA Tryz.underlying76 rfl) rfl rfl rfl (gj_step (y_move rfl) rfl rfl rfl (gj_nil ?_))))
  refine ej_th (cj_block ?_)
  refine cj_lpic (X := Nat) [(0, _), (1, _), (7, _)] (fun k => k ≤ l.length ∧ fidx q (l.drop k) k = fidx q l 0) (fun k => [(8, .int .i64 (k : Nat))]) (fun k => l.length - k) 0 (⟨Nat.zero_le _, rfl⟩) ⟨rfl, rfl, rfl, rfl, trivial⟩ ?_
  rintro k ⟨hk, hsk⟩
  dsimp only [List.cons_append, List.nil_append]
  refine cj_seq ?_
  refine cj_regionG (gj_step (y_lss rfl rfl) rfl rfl rfl (gj_nil ?_))
  refine ej_th (cj_seq ?_)
  refine cj_cond rfl (fun h9 => ?_) (fun h9 => ?_)
  · have h9b := h9
    try simp only [sxb] at h9
    obtain ⟨x, hx⟩ : ∃ x, l[k]? = some x := ⟨_, List.getElem?_eq_getElem (by omega)⟩
    rw [fidx_drop q l k x hx] at hsk
    refine cj_skip (ej_th (cj_seq (cj_block (cj_seq ?_))))
    refine cj_regionG (gj_step (y_move rfl) rfl rfl rfl (gj_step (y_assign rfl) rfl rfl rfl (gj_nil ?_)))
    refine ej_th (cj_seq ?_)
    refine cj_regionG ?_
    refine gj_step (y_move rfl) rfl rfl rfl (gj_step (y_move rfl) rfl rfl rfl (gj_step (y_move rfl) rfl rfl rfl (gj_step (y_ixR (reads_sl) Tryz.underlying76 Tryz.sizeOf75 rfl rfl (⟨by omega, by omega⟩)) rfl rfl rfl (gj_step (y_ldW (reads_sl) Tryz.isAgg75 Tryz.sizeOf75 rfl (hx) (fun _ => rfl)) rfl rfl rfl (?_)))))
    refine gj_step (y_callV hen rfl rfl (fun w1 hp => hpp x (List.mem_of_getElem? hx) w1 hp.below)) rfl rfl rfl ?_
    refine gj_nil ?_
    refine ej_th ?_
    refine cj_cond rfl (fun h16 => ?_) (fun h16 => ?_)
    · have h16b := h16
      try simp only [sxb] at h16
      refine cj_seq ?_
      refine cj_regionG (gj_step (y_move rfl) rfl rfl rfl (gj_step (y_assign rfl) rfl rfl rfl (gj_nil ?_)))
      refine ej_th (cj_ret (ej_blk_ret (ej_then_ret (ej_then_ret (ej_blk_ret (ej_then_ret ?_))))))
      refine ej_ret1 rfl Tryz.results71 rfl (fun w' hp => ⟨?_, hp.below⟩)
      rw [← hsk, if_pos h16b]
    · have h16b := h16
      try simp only [sxb] at h16
      refine cj_skip (ej_blk (ej_th ?_))
      refine cj_regionG (gj_step (y_add rfl rfl (by omega)) rfl rfl rfl (gj_step (y_move rfl) rfl rfl rfl (gj_nil ?_)))
      exact ej_nx (k + 1) (by omega) ⟨by omega, by rw [← hsk, if_neg (by rw [h16b]; simp)]⟩ ⟨rfl, rfl, rfl, rfl, trivial⟩
  · have h9b := h9
    try simp only [sxb] at h9
    refine cj_exit (ej_then_exit (ej_then_exit (ej_blk_hit (ej_th (cj_seq ?_)))))
    refine cj_regionG (gj_step (y_assign rfl) rfl rfl rfl (gj_nil ?_))
    refine ej_th (cj_ret ?_)
    refine ej_ret1 rfl Tryz.results71 rfl (fun w' hp => ⟨?_, hp.below⟩)
    rw [← hsk, List.drop_of_length_le (by omega)]; rfl

theorem k_ContP (l : List PartV) (A : Option Addr) (c : Nat) (f : Nat) (fi ca : Array Value) (q : PartV → Bool) (w : World) (hl : Rd w 3 encPa A l) (hen : ∀ args w, (callFunc f args).run Tryz.prog w = .ok (.enter f args) w) (hpp : ∀ x ∈ l, ∀ w1, Grow w w1 → Calls Tryz.prog f (fi ++ [.agg #[.string x.name, .int .i64 x.value, .slice x.A x.dues.length x.c]].toArray ++ ca) w1 (fun e w2 => e = .returned (.bool (q x)) ∧ Grow w1 w2)) : Calls Tryz.prog 37 #[.slice A l.length c, .func (.func f) fi ca] w (fun e w' => e = .returned (.bool (l.any q)) ∧ Grow w w') := by
  refine enter_pure (args := [.slice A l.length c, .func (.func f) fi ca]) [sl (fun b => b < w.heap.size) 3 encPa A l] Tryz.func37 rfl (by rw [Tryz.ntmps37]; simp) (fun g hg => by simp at hg; subst hg; exact ⟨hl, fun _ h => h⟩) ?_
  refine cj_seq ?_
  refine cj_regionG (gj_step (y_assign rfl) rfl rfl rfl (gj_nil ?_))
  refine ej_th (cj_seq ?_)
  refine cj_regionG ?_
  refine gj_step (y_move rfl) rfl rfl rfl (gj_step (y_move rfl) rfl rfl rfl (?_))
  refine gj_step (y_call Tryz.call71 rfl (fun w hp => k_IndexP l A c f fi ca q w hp.rd hen (fun x hx w1 hg => hpp x hx w1 (grow_trans hp.below hg)))) rfl rfl rfl ?_
  refine gj_step (y_geq rfl rfl) rfl rfl rfl (gj_step (y_assign rfl) rfl rfl rfl (?_))
  refine gj_nil ?_
  refine ej_th (cj_ret ?_)
  refine ej_ret1 rfl Tryz.results37 rfl (fun w' hp => ⟨?_, hp.below⟩)
  rw [fidx_any q l]

theorem k_po1 (x p : PartV) (b : Nat) (w : World) (hb : (ownB b (cellsB 75 [.string p.name, .int .i64 p.value, .slice p.A p.dues.length p.c])).P w) : Calls Tryz.prog 38 #[.agg #[.string x.name, .int .i64 x.value, .slice x.A x.dues.length x.c], .pointer (some ⟨b, 0, none⟩)] w (fun e w' => e = .returned (.bool (x.name == p.name)) ∧ Grow w w') := by
  refine enter_pure (args := [.agg #[.string x.name, .int .i64 x.value, .slice x.A x.dues.length x.c], .pointer (some ⟨b, 0, none⟩)]) [ownB b (cellsB 75 [.string p.name, .int .i64 p.value, .slice p.A p.dues.length p.c])] Tryz.func38 rfl (by rw [Tryz.ntmps38]; simp) (fun g hg => by
    rw [List.mem_singleton.1 hg]
    exact ⟨hb, fun i hi => by have hi : i = b := hi; subst hi; exact (Array.getElem?_eq_some_iff.1 hb).1⟩) ?_
  refine cj_seq (cj_region ?_)
  refine oj_box rfl rfl rfl (fun b2 => ?_)
  refine oj_step (y_assign rfl) rfl rfl rfl ?_
  refine oj_nil ?_
  refine ej_th (cj_seq ?_)
  refine cj_regionG (gj_step (y_fa0 fa75_0 rfl) rfl rfl rfl (gj_step (y_load1 Tryz.isAgg9 rfl rfl) rfl rfl rfl (gj_step (y_fa0 fa75_0 rfl) rfl rfl rfl (gj_step (y_loadS1 Tryz.isAgg9 rfl rfl) rfl rfl rfl (gj_step (y_eqlS rfl rfl) rfl rfl rfl (gj_step (y_assign rfl) rfl rfl rfl (gj_nil ?_)))))))
  refine ej_th (cj_ret ?_)
  exact ej_ret1 rfl Tryz.results38 rfl (fun w' hp => ⟨rfl, hp.below⟩)

theorem k_po2 (x : PartV) (w : World) (hx : Rd w 2 encDu x.A x.dues) : Calls Tryz.prog 40 #[.agg #[.string x.name, .int .i64 x.value, .slice x.A x.dues.length x.c]] w (fun e w' => e = .returned (.bool (!(duesB x.dues))) ∧ Grow w w') := by
  refine enter_pure (args := [.agg #[.string x.name, .int .i64 x.value, .slice x.A x.dues.length x.c]]) [sl (fun b => b < w.heap.size) 2 encDu x.A x.dues] Tryz.func40 rfl (by rw [Tryz.ntmps40]; simp) (fun g hg => by simp at hg; subst hg; exact ⟨hx, fun _ h => h⟩) ?_
  refine cj_seq (cj_region ?_)
  refine oj_box rfl rfl rfl (fun b1 => ?_)
  refine oj_step (y_assign rfl) rfl rfl rfl ?_
  refine oj_nil ?_
  refine ej_th (cj_seq ?_)
  refine cj_regionG ?_
  refine gj_step (y_fa fa75_2 rfl) rfl rfl rfl (gj_step (y_load1 Tryz.isAgg73 rfl rfl) rfl rfl rfl (?_))
  refine gj_step (y_call Tryz.call41 rfl (fun w hp => k_dues x.dues x.A x.c w hp.rd)) rfl rfl rfl ?_
  refine gj_step (y_not rfl) rfl rfl rfl (gj_step (y_assign rfl) rfl rfl rfl (?_))
  refine gj_nil ?_
  refine ej_th (cj_ret ?_)
  exact ej_ret1 rfl Tryz.results40 rfl (fun w' hp => ⟨rfl, hp.below⟩)

set_option maxHeartbeats 1000000 in
theorem k_Portions (price : Int) (ps : List PartV) (A : Option Addr) (c : Nat) (w : World) (hl : Rd w 3 encPa A ps) (hcap : ps.length ≤ c) (hgp : ∀ p ∈ ps, GoodP w p) : Calls Tryz.prog 15 #[.int .i64 price, .slice A ps.length c] w (fun e w' => ∃ A c out, e = .returned (.tuple #[.slice A (out : List PorV).length c, .int .i64 (porE Pl.isW price ps)]) ∧ Grow w w' ∧ Res w w' 3 encPo A out ∧ (∀ r ∈ out, Res w w' 1 enInt r.A r.paid) ∧ out.map PorV.p = porL Pl.isW price ps) := by
  have hlen := hl.len
  refine enter_pure (args := [.int .i64 price, .slice A ps.length c]) [sl (fun b => b < w.heap.size) 3 encPa A ps] Tryz.func15 rfl (by rw [Tryz.ntmps15]; simp) (fun g hg => by simp at hg; subst hg; exact ⟨hl, fun _ h => h⟩) ?_
  refine cj_seq ?_
  refine cj_regionG (gj_step (y_assign rfl) rfl rfl rfl (gj_step (y_assign rfl) rfl rfl rfl (gj_nil ?_)))
  refine ej_th (cj_seq (cj_seq ?_))
  refine cj_regionG ?_
  refine gj_step (y_move rfl) rfl rfl rfl (?_)
  refine gj_step (y_call Tryz.call35 rfl (fun w hp => k_within _ _ _ w)) rfl rfl rfl ?_
  refine gj_step (y_not rfl) rfl rfl rfl (?_)
  refine gj_nil ?_
  refine ej_th ?_
  refine cj_cond rfl (fun h16 => ?_) (fun h16 => ?_)
  · have h16b := h16
    try simp only [sxb] at h16
    refine cj_seq ?_
    refine cj_regionG (gj_step (y_assign rfl) rfl rfl rfl (gj_step (y_assign rfl) rfl rfl rfl (gj_nil ?_)))
    refine ej_th (cj_ret (ej_then_ret ?_))
    have hE : porE Pl.isW price ps = 7 := by rw [porE, if_pos h16b]
    rw [hE]
    exact ej_ret2 rfl Tryz.results15 rfl rfl (fun w' hp => ⟨none, 0, [], rfl, hp.below, Res.nil, (fun r hr => by cases hr), by rw [porL_no (by rw [hE]; decide)]; rfl⟩)
  · have h16b := h16
    try simp only [sxb] at h16
    have hpr := btw_t (not_f h16b)
    refine cj_skip (ej_th (cj_seq (cj_seq ?_)))
    refine cj_regionG ?_
    refine gj_step (y_move rfl) rfl rfl rfl (gj_step (y_lenA Tryz.underlying76 rfl) rfl rfl rfl (?_))
    refine gj_step (y_call Tryz.call35 rfl (fun w hp => k_within _ _ _ w)) rfl rfl rfl ?_
    refine gj_step (y_not rfl) rfl rfl rfl (?_)
    refine gj_nil ?_
    refine ej_th ?_
    refine cj_cond rfl (fun h20 => ?_) (fun h20 => ?_)
    · have h20b := h20
      try simp only [sxb] at h20
      refine cj_seq ?_
      refine cj_regionG (gj_step (y_assign rfl) rfl rfl rfl (gj_step (y_assign rfl) rfl rfl rfl (gj_nil ?_)))
      refine ej_th (cj_ret (ej_then_ret ?_))
      have hE : porE Pl.isW price ps = 72 := by rw [porE, if_neg (by rw [h16b]; simp), if_pos h20b]
      rw [hE]
      exact ej_ret2 rfl Tryz.results15 rfl rfl (fun w' hp => ⟨none, 0, [], rfl, hp.below, Res.nil, (fun r hr => by cases hr), by rw [porL_no (by rw [hE]; decide)]; rfl⟩)
    · have h20b := h20
      try simp only [sxb] at h20
      have hl8 := btw_t (not_f h20b)
      refine cj_skip (ej_th (cj_seq ?_))
      refine cj_regionG (gj_step (y_assign rfl) rfl rfl rfl (gj_nil ?_))
      refine ej_th (cj_seq (cj_seq ?_))
      refine cj_regionG (gj_step (y_move rfl) rfl rfl rfl (gj_step (y_lenA Tryz.underlying76 rfl) rfl rfl rfl (gj_step (y_move rfl) rfl rfl rfl (gj_nil ?_))))
      refine ej_th (cj_block ?_)
      refine cj_ownNil 3 1 enInt ?_
      refine cj_lpi (X := Nat × Option Addr × Nat × List Int) [(0, _), (1, _), (21, _), (22, _)] (fun ⟨k, A1, c1, vs⟩ => k ≤ ps.length ∧ vs = (valsL ps).take k ∧ vs.length = k ∧ namB Pl.isW ps k = true) (fun ⟨k, A1, c1, vs⟩ => [(6, .slice A1 vs.length c1), (23, .int .i64 (k : Nat))]) (fun ⟨k, A1, c1, vs⟩ => [ow 3 1 enInt A1 c1 vs]) (fun ⟨k, A1, c1, vs⟩ => [sl (fun b => b < w.heap.size) 3 encPa A ps]) (fun ⟨k, A1, c1, vs⟩ => ps.length - k) (0, none, 0, []) (⟨Nat.zero_le _, rfl, rfl, rfl⟩) ⟨rfl, rfl, rfl, rfl, rfl, rfl, trivial⟩ ?_
      rintro ⟨k, A1, c1, vs⟩ ⟨hk, hvs, hvl0, hnm⟩
      dsimp only [List.cons_append, List.nil_append]
      refine cj_seq ?_
      refine cj_regionG (gj_step (y_lss rfl rfl) rfl rfl rfl (gj_nil ?_))
      refine ej_th (cj_seq ?_)
      refine cj_cond rfl (fun h24 => ?_) (fun h24 => ?_)
      · have h24b := h24
        try simp only [sxb] at h24
        obtain ⟨p, hx⟩ : ∃ p, ps[k]? = some p := ⟨_, List.getElem?_eq_getElem (by omega)⟩
        refine cj_skip (ej_th (cj_seq (cj_block (cj_seq (cj_region ?_)))))
        refine oj_step (y_move rfl) rfl rfl rfl ?_
        refine oj_step (y_ixR (reads_sl) Tryz.underlying76 Tryz.sizeOf75 rfl rfl (⟨by omega, by omega⟩)) rfl rfl rfl ?_
        refine oj_step (y_ldW (reads_sl) Tryz.isAgg75 Tryz.sizeOf75 rfl (hx) (fun _ => rfl)) rfl rfl rfl ?_
        refine oj_alloc Tryz.zeroValue75 rfl rfl (fun b8 => ?_)
        refine oj_step (y_assign rfl) rfl rfl rfl ?_
        refine oj_store rfl rfl rfl rfl Tryz.sizeOf75 rfl ?_
        refine oj_nil ?_
        refine ej_th (cj_seq (cj_region ?_))
        refine oj_step (y_move rfl) rfl rfl rfl ?_
        refine oj_step (y_fa fa75_1 rfl) rfl rfl rfl ?_
        refine oj_step (y_load1 Tryz.isAgg3 rfl rfl) rfl rfl rfl ?_
        refine oj_buildSlice (cs := [.int .i64 p.value]) [.int .i64 0] Tryz.underlying26 Tryz.sizeOf3 Tryz.zeroValue3 rfl rfl (by kernel_rfl) (by kernel_rfl) rfl (fun b31 => ?_)
        refine oj_append  el26 (fun _ => rfl) enInt_one rfl rfl rfl (reads_lit (sz := 1) [p.value] (fun _ => rfl) rfl) (by unfold maxLen; simp only [List.length_append, List.length_cons, List.length_nil]; omega) (by simp only [List.length_append, List.length_cons, List.length_nil]; omega) rfl (fun A32 c32 => ?_)
        refine oj_step (y_assign rfl) rfl rfl rfl ?_
        refine oj_nil ?_
        refine ej_th (cj_seq ?_)
        refine cj_regionG ?_
        refine gj_step (y_fa0 fa75_0 rfl) rfl rfl rfl (gj_step (y_load1 Tryz.isAgg9 rfl rfl) rfl rfl rfl (?_))
        refine gj_step (y_call Tryz.call36 rfl (fun w hp => Pl.k_IsWord p.name w (hgp p (List.mem_of_getElem? hx)).nm)) rfl rfl rfl ?_
        refine gj_step (y_not rfl) rfl rfl rfl (gj_step (y_move rfl) rfl rfl rfl (?_))
        refine gj_g 5 37 42 rfl rfl rfl rfl (fun hg37 => gj_yes rfl rfl rfl (y_move rfl) rfl rfl (gj_yes rfl rfl rfl (y_move rfl) rfl rfl (gj_yes rfl rfl rfl (y_sliceTo (xs := ps) k Tryz.underlying76 Tryz.sizeOf75 rfl rfl (by omega) (by omega)) rfl rfl (gj_yes rfl rfl rfl (y_makeFunc rfl rfl) rfl rfl (gj_yes rfl rfl rfl (y_call Tryz.call37 rfl (fun w hp => by
          have h := k_ContP (ps.take k) A c 38 #[] #[.pointer (some ⟨b8, 0, none⟩)] (fun o : PartV => o.name == p.name) w (Rd.takeL hp.rd k) Tryz.call38 (fun x hx w1 hg => k_po1 x p b8 w1 ((hp.grow hg).own1))
          exact h)) rfl rfl (gj_nil rfl)))))) ?_
        refine gj_step (y_or rfl rfl rfl) rfl rfl rfl (?_)
        refine gj_nil ?_
        refine ej_th ?_
        refine cj_cond rfl (fun h43 => ?_) (fun h43 => ?_)
        · have h43b := h43
          try simp only [sxb] at h43
          have hbad : namB Pl.isW ps ps.length = false := by
            rw [show ps.length = (k + 1) + (ps.length - (k + 1)) by omega]
            refine namB_no ?_ _
            rw [namB, hnm, hx]
            simp only [Bool.true_and]
            rw [Bool.or_eq_true] at h43b
            rcases h43b with h9 | h9
            · rw [not_t h9]; rfl
            · rw [h9]; simp
          refine cj_seq ?_
          refine cj_regionG (gj_step (y_assign rfl) rfl rfl rfl (gj_step (y_assign rfl) rfl rfl rfl (gj_nil ?_)))
          refine ej_th (cj_ret (ej_blk_ret (ej_then_ret (ej_then_ret (ej_blk_ret (ej_then_ret ?_))))))
          have hE : porE Pl.isW price ps = 72 := by rw [porE, if_neg (by rw [h16b]; simp), if_neg (by rw [h20b]; simp), if_pos (by rw [hbad]; rfl)]
          rw [hE]
          exact ej_ret2 rfl Tryz.results15 rfl rfl (fun w' hp => ⟨none, 0, [], rfl, hp.below, Res.nil, (fun r hr => by cases hr), by rw [porL_no (by rw [hE]; decide)]; rfl⟩)
        · have h43b := h43
          try simp only [sxb] at h43
          have hnm2 : namB Pl.isW ps (k + 1) = true := by
            rw [namB, hnm, hx]
            rw [Bool.or_eq_false_iff] at h43b
            simp only [Bool.true_and]
            rw [not_f h43b.1, h43b.2]; rfl
          refine cj_skip (ej_blk (ej_th ?_))
          refine cj_regionG (gj_step (y_add rfl rfl (by omega)) rfl rfl rfl (gj_step (y_move rfl) rfl rfl rfl (gj_nil ?_)))
          exact ej_nx (k + 1, A32, c32, vs ++ [p.value]) (by simp only; omega) ⟨by first | omega | (simp only; omega), by rw [hvs]; unfold valsL; rw [List.take_add_one, List.getElem?_map, hx]; rfl, by simp only [List.length_append, List.length_cons, List.length_nil]; omega, hnm2⟩ ⟨rfl, rfl, rfl, rfl, rfl, rfl, trivial⟩
      · have h24b := h24
        try simp only [sxb] at h24
        refine cj_exit (ej_then_exit (ej_then_exit (ej_blk_hit (ej_th (cj_seq (cj_seq ?_))))))
        have hke : k = ps.length := by omega
        subst hke
        have hvs2 : vs = valsL ps := by rw [hvs]; exact List.take_of_length_le (by simp [valsL])
        clear hvs
        have hvs := hvs2
        refine cj_regionG ?_
        refine gj_step (y_move rfl) rfl rfl rfl (?_)
        refine gj_step (y_call Tryz.call39 rfl (fun w hp => by
          have h := k_weights vs A1 c1 w (hp.rdO enInt_len (by unfold maxLen; omega))
          exact h)) rfl rfl rfl ?_
        refine gj_step (y_not rfl) rfl rfl rfl (?_)
        refine gj_nil ?_
        refine ej_th ?_
        refine cj_cond rfl (fun h47 => ?_) (fun h47 => ?_)
        · have h47b := h47
          try simp only [sxb] at h47
          have hw0 : weiB (valsL ps) = false := by rw [← hvs]; exact not_t h47b
          refine cj_seq ?_
          refine cj_regionG (gj_step (y_assign rfl) rfl rfl rfl (gj_step (y_assign rfl) rfl rfl rfl (gj_nil ?_)))
          refine ej_th (cj_ret (ej_then_ret ?_))
          have hE : porE Pl.isW price ps = 72 := by rw [porE, if_neg (by rw [h16b]; simp), if_neg (by rw [h20b]; simp), if_neg (by rw [hnm]; simp), if_pos (by rw [hw0]; rfl)]
          rw [hE]
          exact ej_ret2 rfl Tryz.results15 rfl rfl (fun w' hp => ⟨none, 0, [], rfl, hp.below, Res.nil, (fun r hr => by cases hr), by rw [porL_no (by rw [hE]; decide)]; rfl⟩)
        · have h47b := h47
          try simp only [sxb] at h47
          have hwt := wei_t (not_f h47b)
          have hw1 : weiB (valsL ps) = true := by rw [← hvs]; exact not_f h47b
          refine cj_skip (ej_th (cj_seq (cj_seq ?_)))
          refine cj_regionG ?_
          refine gj_step (y_move rfl) rfl rfl rfl (?_)
          refine gj_step (y_call Tryz.call37 rfl (fun w hp => k_ContP ps A c 40 #[] #[] (fun x => !(duesB x.dues)) w hp.rd Tryz.call40 (fun x hx w1 hg => k_po2 x w1 ((hgp x hx).rd.mono (grow_trans hp.below hg))))) rfl rfl rfl ?_
          refine gj_nil ?_
          refine ej_th ?_
          refine cj_cond rfl (fun h49 => ?_) (fun h49 => ?_)
          · have h49b := h49
            try simp only [sxb] at h49
            have hd0 : (ps.all fun p => duesB p.dues) = false := by
              have h9 := any_not (fun x : PartV => duesB x.dues) ps
              rw [h49b] at h9
              exact not_t h9.symm
            refine cj_seq ?_
            refine cj_regionG (gj_step (y_assign rfl) rfl rfl rfl (gj_step (y_assign rfl) rfl rfl rfl (gj_nil ?_)))
            refine ej_th (cj_ret (ej_then_ret ?_))
            have hE : porE Pl.isW price ps = 71 := by rw [porE, if_neg (by rw [h16b]; simp), if_neg (by rw [h20b]; simp), if_neg (by rw [hnm]; simp), if_neg (by rw [hw1]; simp), if_pos (by rw [hd0]; rfl)]
            rw [hE]
            exact ej_ret2 rfl Tryz.results15 rfl rfl (fun w' hp => ⟨none, 0, [], rfl, hp.below, Res.nil, (fun r hr => by cases hr), by rw [porL_no (by rw [hE]; decide)]; rfl⟩)
          · have h49b := h49
            try simp only [sxb] at h49
            have hd1 : (ps.all fun p => duesB p.dues) = true := by
              have h9 := any_not (fun x : PartV => duesB x.dues) ps
              rw [h49b] at h9
              exact not_f h9.symm
            have hdu : ∀ p ∈ ps, duesB p.dues = true := fun p hp => all_mem hd1 hp
            have hvn : ∀ x ∈ valsL ps, 0 ≤ x := fun x hx => (hwt.2.2.1 x (by rw [hvs]; exact hx)).1
            have hwp : 0 < sumI (valsL ps) := by rw [← hvs]; exact hwt.2.2.2.1
            have hsl := share_len hvn hpr.1 hwp
            have hss := share_sum hvn hpr.1 hwp
            have hsn := share_nn hvn hpr.1 hwp
            have hvl : (valsL ps).length = ps.length := List.length_map ..
            refine cj_skip (ej_th (cj_seq ?_))
            refine cj_regionG (gj_step (y_assign rfl) rfl rfl rfl (gj_nil ?_))
            refine ej_th (cj_seq (cj_seq (cj_region ?_)))
            refine oj_step (y_move rfl) rfl rfl rfl ?_
            refine oj_step (y_move rfl) rfl rfl rfl ?_
            refine oj_callS (fun A c => .slice A ((shareL (valsL ps) price)).length c) 1 enInt ((shareL (valsL ps) price)) Tryz.call42 rfl (fun w hp => by
              have h := k_share vs A1 c1 price w (hp.rdO enInt_len (by unfold maxLen; omega)) hwt.2.1 hwt.2.2.1 hwt.2.2.2.1 ⟨hpr.1, by omega⟩
              have h9 : shareL vs price = shareL (valsL ps) price := by rw [hvs]
              rw [h9] at h
              exact h) rfl (fun A52 c52 fp52 hfp52 => ?_)
            refine oj_step (y_lenA Tryz.underlying26 rfl) rfl rfl rfl ?_
            refine oj_step (y_move rfl) rfl rfl rfl ?_
            refine oj_nil ?_
            refine ej_th (cj_block ?_)
            refine cj_ownNil 79 3 encPo ?_
            refine cj_addS (rowsP (fun _ => False) []) (fun w hp => ⟨fun z hz => (by cases hz), fun i hi => hi.elim⟩) ?_
            refine cj_lpi (X := Nat × (Option Addr × Nat × List PorV) × (Nat → Prop)) [(1, _), (52, _), (53, _)] (fun ⟨k, ⟨A9, c9, out⟩, fp⟩ => k ≤ (shareL (valsL ps) price).length ∧ out.length = k ∧ out.map PorV.p = (portsL price ps).take k ∧ ∀ b, fp b → w.heap.size ≤ b) (fun ⟨k, ⟨A9, c9, out⟩, fp⟩ => [(9, .slice A9 out.length c9), (54, .int .i64 (k : Nat))]) (fun ⟨k, ⟨A9, c9, out⟩, fp⟩ => [ow 79 3 encPo A9 c9 out]) (fun ⟨k, ⟨A9, c9, out⟩, fp⟩ => [rowsP fp out, sl fp52 1 enInt A52 (shareL (valsL ps) price), sl (fun b => b < w.heap.size) 3 encPa A ps]) (fun ⟨k, ⟨A9, c9, out⟩, fp⟩ => (shareL (valsL ps) price).length - k) (0, (none, 0, []), fun _ => False) (⟨Nat.zero_le _, rfl, rfl, fun b hb => hb.elim⟩) ⟨rfl, rfl, rfl, rfl, rfl, trivial⟩ ?_
            rintro ⟨k, ⟨A9, c9, out⟩, fp⟩ ⟨hk, hol, hom, hfp⟩
            dsimp only [List.cons_append, List.nil_append]
            refine cj_seq ?_
            refine cj_regionG (gj_step (y_lss rfl rfl) rfl rfl rfl (gj_nil ?_))
            refine ej_th (cj_seq ?_)
            refine cj_cond rfl (fun h55 => ?_) (fun h55 => ?_)
            · have h55b := h55
              try simp only [sxb] at h55
              obtain ⟨n, hn⟩ : ∃ n, (shareL (valsL ps) price)[k]? = some n := ⟨_, List.getElem?_eq_getElem (by omega)⟩
              obtain ⟨p, hx2⟩ : ∃ p, ps[k]? = some p := ⟨_, List.getElem?_eq_getElem (by omega)⟩
              have hpm := List.mem_of_getElem? hx2
              have hnn : ∀ x ∈ (shareL (valsL ps) price), 0 ≤ x := fun x hx => by
                obtain ⟨j, hj, rfl⟩ := List.mem_iff_getElem.1 hx
                have h7 := hsn j
                rwa [gd_lt hj] at h7
              have hnb : 0 ≤ n ∧ n ≤ 67108864 := ⟨hnn n (List.mem_of_getElem? hn), by have h9 := sumI_mem_le hnn n (List.mem_of_getElem? hn); omega⟩
              refine cj_skip (ej_th (cj_seq (cj_block (cj_seq ?_))))
              refine cj_regionG (gj_step (y_move rfl) rfl rfl rfl (gj_step (y_ixR (reads_sl (xs := (shareL (valsL ps) price))) Tryz.underlying26 Tryz.sizeOf3 rfl rfl ⟨by omega, by omega⟩) rfl rfl rfl (gj_step (y_ld0 (reads_sl) Tryz.isAgg3 rfl (hn) rfl) rfl rfl rfl (gj_step (y_assign rfl) rfl rfl rfl (gj_step (y_assign rfl) rfl rfl rfl (gj_nil ?_))))))
              refine ej_th (cj_seq (cj_region ?_))
              refine oj_step (y_move rfl) rfl rfl rfl ?_
              refine oj_step (y_move rfl) rfl rfl rfl ?_
              refine oj_step (y_ixR (reads_sl) Tryz.underlying76 Tryz.sizeOf75 rfl rfl (⟨by omega, by omega⟩)) rfl rfl rfl ?_
              refine oj_step (y_faE fa75_2 rfl) rfl rfl rfl ?_
              refine oj_step (y_ld1 (reads_sl) Tryz.isAgg73 rfl (hx2) rfl) rfl rfl rfl ?_
              refine oj_step (y_move rfl) rfl rfl rfl ?_
              refine oj_callS (fun A c => .tuple #[.slice A (spreadL p.dues n).1.length c, .int .i64 (spreadL p.dues n).2]) 1 enInt (spreadL p.dues n).1 Tryz.call43 rfl (fun w hp => k_spread p.dues p.A p.c n w ((hgp p hpm).rd.mono hp.below) (hdu p hpm) hnb) rfl (fun A66 c66 fp66 hfp66 => ?_)
              refine oj_step (y_move rfl) rfl rfl rfl ?_
              refine oj_step (y_extract rfl rfl) rfl rfl rfl ?_
              refine oj_step (y_extract rfl rfl) rfl rfl rfl ?_
              refine oj_step (y_assign rfl) rfl rfl rfl ?_
              refine oj_step (y_assign rfl) rfl rfl rfl ?_
              refine oj_nil ?_
              refine ej_th (cj_region ?_)
              refine oj_step (y_move rfl) rfl rfl rfl ?_
              refine oj_step (y_move rfl) rfl rfl rfl ?_
              refine oj_step (y_move rfl) rfl rfl rfl ?_
              refine oj_step (y_move rfl) rfl rfl rfl ?_
              refine oj_step (y_build (cs := [.int .i64 n, .slice A66 (spreadL p.dues n).1.length c66, .int .i64 (spreadL p.dues n).2]) st79 rfl (by kernel_rfl)) rfl rfl rfl ?_
              refine oj_buildSlice (cs := [.int .i64 n, .slice A66 (spreadL p.dues n).1.length c66, .int .i64 (spreadL p.dues n).2]) [.int .i64 0, .slice none 0 0, .int .i64 0] Tryz.underlying68 Tryz.sizeOf79 Tryz.zeroValue79 rfl rfl (by kernel_rfl) (by kernel_rfl) rfl (fun b74 => ?_)
              refine oj_append  el68 (fun _ => rfl) encPo_one rfl rfl rfl (reads_lit (sz := 3) [(⟨n, A66, c66, (spreadL p.dues n).1, (spreadL p.dues n).2⟩ : PorV)] (fun _ => rfl) rfl) (by unfold maxLen; simp only [List.length_append, List.length_cons, List.length_nil]; omega) (by simp only [List.length_append, List.length_cons, List.length_nil]; omega) rfl (fun A75 c75 => ?_)
              refine oj_step (y_assign rfl) rfl rfl rfl ?_
              refine oj_nil ?_
              refine ej_blk (ej_th ?_)
              refine cj_regionG (gj_step (y_add rfl rfl (by omega)) rfl rfl rfl (gj_step (y_move rfl) rfl rfl rfl (gj_nil ?_)))
              refine ej_addS (rowsP (fun i => fp i ∨ fp66 i) (out ++ [(⟨n, A66, c66, (spreadL p.dues n).1, (spreadL p.dues n).2⟩ : PorV)])) (fun w1 hp => rowsP_snoc hp (.tail _ (.head _)) (.head _)) ?_
              exact ej_nx (k + 1, (A75, c75, out ++ [(⟨n, A66, c66, (spreadL p.dues n).1, (spreadL p.dues n).2⟩ : PorV)]), fun i => fp i ∨ fp66 i) (by simp only; omega) ⟨by first | omega | (simp only; omega), by simp only [List.length_append, List.length_cons, List.length_nil]; omega, by rw [ports_take hx2 hn, List.map_append, hom]; rfl, fun b hb => hb.elim (hfp b) (hfp66 b)⟩ ⟨rfl, rfl, rfl, rfl, rfl, trivial⟩
            · have h55b := h55
              try simp only [sxb] at h55
              refine cj_exit (ej_then_exit (ej_then_exit (ej_blk_hit (ej_th (cj_seq ?_)))))
              refine cj_regionG (gj_step (y_move rfl) rfl rfl rfl (gj_step (y_assign rfl) rfl rfl rfl (gj_step (y_assign rfl) rfl rfl rfl (gj_nil ?_))))
              refine ej_th (cj_ret ?_)
              have hE : porE Pl.isW price ps = 0 := by rw [porE, if_neg (by rw [h16b]; simp), if_neg (by rw [h20b]; simp), if_neg (by rw [hnm]; simp), if_neg (by rw [hw1]; simp), if_neg (by rw [hd1]; simp)]
              rw [hE]
              exact ej_ret2 rfl Tryz.results15 rfl rfl (fun w' hp => ⟨A9, c9, out, rfl, hp.below, hp.res (fun _ => rfl) (by unfold maxLen; omega), (fun r hr => sl_fp ((hp.shared _ (List.mem_cons_self ..)).1 r hr) (fun b hb => ⟨hfp b hb, (hp.shared _ (List.mem_cons_self ..)).2.1 b hb⟩)), by rw [hom, porL, if_pos hE, List.take_of_length_le (by unfold portsL; rw [List.length_zipWith]; omega)]⟩)

end Go.Proofs.YtppfniekcgnmjaaGreatDoor.Pu
namespace Go.Proofs.YtppfniekcgnmjaaGreatDoor.To
open Go.Sx Go.RowKit
set_option maxRecDepth 20000
theorem fa42_0 : FieldIs Tryz.prog 42 0 0 1 false := ⟨⟨_, _, Tryz.underlying42, rfl, rfl, Tryz.sizeOf3, Tryz.isAgg3, by decide⟩⟩
theorem fa42_1 : FieldIs Tryz.prog 42 1 1 1 false := ⟨⟨_, _, Tryz.underlying42, rfl, rfl, Tryz.sizeOf3, Tryz.isAgg3, by decide⟩⟩
theorem fa42_2 : FieldIs Tryz.prog 42 2 2 1 false := ⟨⟨_, _, Tryz.underlying42, rfl, rfl, Tryz.sizeOf3, Tryz.isAgg3, by decide⟩⟩
theorem fa42_4 : FieldIs Tryz.prog 42 4 4 1 false := ⟨⟨_, _, Tryz.underlying42, rfl, rfl, Tryz.sizeOf4, Tryz.isAgg4, by decide⟩⟩
theorem fa57_0 : FieldIs Tryz.prog 57 0 0 10 true := ⟨⟨_, _, Tryz.underlying57, rfl, rfl, Tryz.sizeOf28, Tryz.isAgg28, by decide⟩⟩
theorem fa57_1 : FieldIs Tryz.prog 57 1 10 1 false := ⟨⟨_, _, Tryz.underlying57, rfl, rfl, Tryz.sizeOf29, Tryz.isAgg29, by decide⟩⟩
theorem fa57_2 : FieldIs Tryz.prog 57 2 11 1 false := ⟨⟨_, _, Tryz.underlying57, rfl, rfl, Tryz.sizeOf3, Tryz.isAgg3, by decide⟩⟩
theorem fa57_3 : FieldIs Tryz.prog 57 3 12 1 false := ⟨⟨_, _, Tryz.underlying57, rfl, rfl, Tryz.sizeOf3, Tryz.isAgg3, by decide⟩⟩
theorem fa57_4 : FieldIs Tryz.prog 57 4 13 1 false := ⟨⟨_, _, Tryz.underlying57, rfl, rfl, Tryz.sizeOf3, Tryz.isAgg3, by decide⟩⟩
theorem fa57_5 : FieldIs Tryz.prog 57 5 14 1 false := ⟨⟨_, _, Tryz.underlying57, rfl, rfl, Tryz.sizeOf54, Tryz.isAgg54, by decide⟩⟩
theorem fa57_6 : FieldIs Tryz.prog 57 6 15 1 false := ⟨⟨_, _, Tryz.underlying57, rfl, rfl, Tryz.sizeOf55, Tryz.isAgg55, by decide⟩⟩
theorem fa63_0 : FieldIs Tryz.prog 63 0 0 1 false := ⟨⟨_, _, Tryz.underlying63, rfl, rfl, Tryz.sizeOf3, Tryz.isAgg3, by decide⟩⟩
theorem fa63_1 : FieldIs Tryz.prog 63 1 1 1 false := ⟨⟨_, _, Tryz.underlying63, rfl, rfl, Tryz.sizeOf3, Tryz.isAgg3, by decide⟩⟩
theorem fa79_1 : FieldIs Tryz.prog 79 1 1 1 false := ⟨⟨_, _, Tryz.underlying79, rfl, rfl, Tryz.sizeOf26, Tryz.isAgg26, by decide⟩⟩
theorem fa79_2 : FieldIs Tryz.prog 79 2 2 1 false := ⟨⟨_, _, Tryz.underlying79, rfl, rfl, Tryz.sizeOf3, Tryz.isAgg3, by decide⟩⟩
theorem st72 : StructIs Tryz.prog 72 [(0, 1), (1, 1)] [.int .i64 0, .int .i64 0] := ⟨⟨_, Tryz.underlying72, fun w => by simp [Tryz.sizeOf3], Tryz.zeroValue72⟩⟩
theorem st75 : StructIs Tryz.prog 75 [(0, 1), (1, 1), (2, 1)] [.string ⟨#[]⟩, .int .i64 0, .slice none 0 0] := ⟨⟨_, Tryz.underlying75, fun w => by simp [Tryz.sizeOf3, Tryz.sizeOf73, Tryz.sizeOf9], Tryz.zeroValue75⟩⟩
end Go.Proofs.YtppfniekcgnmjaaGreatDoor.To
namespace Go.Proofs.YtppfniekcgnmjaaGreatDoor.To
open Go.Sx Go.RowKit Um
set_option maxRecDepth 20000
set_option maxHeartbeats 8000000 in
theorem k_TopSold (d : Ln.Deal) (Ac : Option Addr) (cc : Nat) (l : List Ln.Act1) (Al : Option Addr) (cl : Nat) (n co st : Int) (lad : List Am.RiseV) (Ad : Option Addr) (cd : Nat) (bs : List Am.BidV) (Ab : Option Addr) (cb : Nat) (w : World) (hc : Rd w 1 enInt Ac d.closed) (hl0 : Rd w 3 Ln.encAct Al l) (hlad : Rd w 2 Au.encRi Ad lad) (hbs : Rd w 3 Au.encBi Ab bs) (hG : Gl w 0 Ln.WAYS) : Calls Tryz.prog 4 #[.agg #[.int .i64 d.lr, .int .i64 d.lc, .int .i64 d.tr, .int .i64 d.tf, .int .i64 d.te, .int .i64 d.tt, .int .i64 d.tg, .slice Ac d.closed.length cc, .int .i64 d.start, .int .i64 d.sum, .slice Al l.length cl, .int .i64 n, .int .i64 co, .int .i64 st, .slice Ad lad.length cd, .slice Ab bs.length cb]] w (fun e w' => e = .returned (.bool true) ∧ Grow w w') := by
  refine enter_pure (args := [.agg #[.int .i64 d.lr, .int .i64 d.lc, .int .i64 d.tr, .int .i64 d.tf, .int .i64 d.te, .int .i64 d.tt, .int .i64 d.tg, .slice Ac d.closed.length cc, .int .i64 d.start, .int .i64 d.sum, .slice Al l.length cl, .int .i64 n, .int .i64 co, .int .i64 st, .slice Ad lad.length cd, .slice Ab bs.length cb]]) [sl (fun b => b < w.heap.size) 1 enInt Ac d.closed, sl (fun b => b < w.heap.size) 3 Ln.encAct Al l, sl (fun b => b < w.heap.size) 2 Au.encRi Ad lad, sl (fun b => b < w.heap.size) 3 Au.encBi Ab bs, gl 0 Ln.WAYS] Tryz.func4 rfl (by rw [Tryz.ntmps4]; simp) (fun g hg => by simp at hg; rcases hg with rfl | rfl | rfl | rfl | rfl; exact ⟨hc, fun _ h => h⟩; exact ⟨hl0, fun _ h => h⟩; exact ⟨hlad, fun _ h => h⟩; exact ⟨hbs, fun _ h => h⟩; exact ⟨hG.1, fun b hb => by have : b = 0 := hb; rw [this]; exact hG.2⟩) ?_
  refine cj_seq (cj_region ?_)
  refine oj_box rfl rfl rfl (fun b1 => ?_)
  refine oj_step (y_assign rfl) rfl rfl rfl ?_
  refine oj_nil ?_
  refine ej_th (cj_seq (cj_region ?_))
  refine oj_step (y_fa0 fa57_0 rfl) rfl rfl rfl ?_
  refine oj_step (y_loadN Tryz.isAgg28 Tryz.sizeOf28 rfl) rfl rfl rfl ?_
  refine oj_step (y_fa fa57_1 rfl) rfl rfl rfl ?_
  refine oj_step (y_load1 Tryz.isAgg29 rfl rfl) rfl rfl rfl ?_
  refine oj_step (y_fa fa57_2 rfl) rfl rfl rfl ?_
  refine oj_step (y_load1 Tryz.isAgg3 rfl rfl) rfl rfl rfl ?_
  refine oj_step (y_call Tryz.call11 rfl (fun w hp => Ln.k_Owe d Ac cc l Al cl n w hp.rd hp.rd hp.glo)) rfl rfl rfl ?_
  refine oj_step (y_move rfl) rfl rfl rfl ?_
  refine oj_step (y_extract rfl rfl) rfl rfl rfl ?_
  refine oj_step (y_extract rfl rfl) rfl rfl rfl ?_
  refine oj_alloc Tryz.zeroValue42 rfl rfl (fun b3 => ?_)
  refine oj_store rfl rfl rfl rfl Tryz.sizeOf42 rfl ?_
  refine oj_step (y_assign rfl) rfl rfl rfl ?_
  refine oj_nil ?_
  refine ej_th (cj_seq ?_)
  refine cj_regionG ?_
  refine gj_step (y_fa0 fa57_0 rfl) rfl rfl rfl (gj_step (y_loadN Tryz.isAgg28 Tryz.sizeOf28 rfl) rfl rfl rfl (gj_step (y_fa fa57_1 rfl) rfl rfl rfl (gj_step (y_load1 Tryz.isAgg29 rfl rfl) rfl rfl rfl (gj_step (y_fa fa57_2 rfl) rfl rfl rfl (gj_step (y_load1 Tryz.isAgg3 rfl rfl) rfl rfl rfl (?_))))))
  refine gj_step (y_call Tryz.call12 rfl (fun w hp => Ln.k_Legal d Ac cc l Al cl n w hp.rd hp.rd hp.glo)) rfl rfl rfl ?_
  refine gj_step (y_move rfl) rfl rfl rfl (gj_step (y_extract rfl rfl) rfl rfl rfl (gj_step (y_extract rfl rfl) rfl rfl rfl (gj_step (y_assign rfl) rfl rfl rfl (gj_step (y_assign rfl) rfl rfl rfl (?_)))))
  refine gj_nil ?_
  refine ej_th (cj_seq (cj_seq ?_))
  refine cj_regionG ?_
  refine gj_step (y_move rfl) rfl rfl rfl (gj_step (y_neq rfl rfl) rfl rfl rfl (gj_step (y_move rfl) rfl rfl rfl (?_)))
  refine gj_g 2 33 35 rfl rfl rfl rfl (fun hg33 => gj_yes rfl rfl rfl (y_move rfl) rfl rfl (gj_yes rfl rfl rfl (y_neq rfl rfl) rfl rfl (gj_nil rfl))) ?_
  refine gj_step (y_or rfl rfl rfl) rfl rfl rfl (gj_step (y_move rfl) rfl rfl rfl (?_))
  refine gj_g 3 37 40 rfl rfl rfl rfl (fun hg37 => gj_yes rfl rfl rfl (y_fa fa42_4 rfl) rfl rfl (gj_yes rfl rfl rfl (y_load1 Tryz.isAgg4 rfl rfl) rfl rfl (gj_yes rfl rfl rfl (y_not rfl) rfl rfl (gj_nil rfl)))) ?_
  refine gj_step (y_or rfl rfl rfl) rfl rfl rfl (gj_step (y_move rfl) rfl rfl rfl (?_))
  refine gj_g 4 42 46 rfl rfl rfl rfl (fun hg42 => gj_yes rfl rfl rfl (y_fa fa57_3 rfl) rfl rfl (gj_yes rfl rfl rfl (y_load1 Tryz.isAgg3 rfl rfl) rfl rfl (gj_yes rfl rfl rfl (y_call Tryz.call8 rfl (fun w hp => Ln.k_From _ _ _ w)) rfl rfl (gj_yes rfl rfl rfl (y_not rfl) rfl rfl (gj_nil rfl))))) ?_
  refine gj_step (y_or rfl rfl rfl) rfl rfl rfl (?_)
  refine gj_nil ?_
  refine ej_th ?_
  refine cj_cond rfl (fun h47 => ?_) (fun h47 => ?_)
  · have h47b := h47
    try simp only [sxb] at h47
    refine cj_seq ?_
    refine cj_regionG ?_
    refine gj_step (y_call Tryz.call13 rfl (fun w hp => k_sold07 w)) rfl rfl rfl ?_
    refine gj_step (y_assign rfl) rfl rfl rfl (?_)
    refine gj_nil ?_
    refine ej_th (cj_ret (ej_then_ret ?_))
    refine ej_ret1 rfl Tryz.results4 rfl (fun w' hp => ⟨?_, hp.below⟩)
    rfl
  · have h47b := h47
    try simp only [sxb] at h47
    have hz : Ln.onE d l n = 0 ∧ (Ln.OweA d l n).op = true ∧ 0 ≤ co ∧ co ≤ 1000 := by
      simp only [Bool.or_eq_false_iff, bne_eq_false_iff_eq, Bool.not_eq_false', Bool.and_eq_true, decide_eq_true_iff] at h47b
      exact ⟨h47b.1.1.1, h47b.1.2, h47b.2.1, h47b.2.2⟩
    obtain ⟨hz1, hz2, hz3⟩ := hz
    obtain ⟨f1, f2, f3, f4, f5, f6, f7, f8⟩ := owe_facts hz1
    have f1 := f1 hz2
    refine cj_skip (ej_th (cj_seq ?_))
    refine cj_regionG (gj_step (y_fa fa42_1 rfl) rfl rfl rfl (gj_step (y_load1 Tryz.isAgg3 rfl rfl) rfl rfl rfl (gj_step (y_fa fa42_2 rfl) rfl rfl rfl (gj_step (y_load1 Tryz.isAgg3 rfl rfl) rfl rfl rfl (gj_step (y_sub rfl rfl (by omega)) rfl rfl rfl (gj_step (y_assign rfl) rfl rfl rfl (gj_nil ?_)))))))
    refine ej_th (cj_seq ?_)
    refine cj_regionG (gj_step (y_fa fa57_3 rfl) rfl rfl rfl (gj_step (y_load1 Tryz.isAgg3 rfl rfl) rfl rfl rfl (gj_step (y_move rfl) rfl rfl rfl (gj_step (y_add rfl rfl (by omega)) rfl rfl rfl (gj_step (y_fa0 fa42_0 rfl) rfl rfl rfl (gj_step (y_load1 Tryz.isAgg3 rfl rfl) rfl rfl rfl (gj_step (y_add rfl rfl (by omega)) rfl rfl rfl (gj_step (y_assign rfl) rfl rfl rfl (gj_nil ?_)))))))))
    refine ej_th (cj_seq (cj_region ?_))
    refine oj_step (y_fa fa57_4 rfl) rfl rfl rfl ?_
    refine oj_step (y_load1 Tryz.isAgg3 rfl rfl) rfl rfl rfl ?_
    refine oj_step (y_move rfl) rfl rfl rfl ?_
    refine oj_step (y_fa fa57_5 rfl) rfl rfl rfl ?_
    refine oj_step (y_load1 Tryz.isAgg54 rfl rfl) rfl rfl rfl ?_
    refine oj_step (y_build st67 rfl rfl) rfl rfl rfl ?_
    refine oj_step (y_fa fa57_6 rfl) rfl rfl rfl ?_
    refine oj_step (y_load1 Tryz.isAgg55 rfl rfl) rfl rfl rfl ?_
    refine oj_step (y_call Tryz.call14 rfl (fun w hp => Au.k_Sell st (co + ((Ln.OweA d l n).ch - (Ln.OweA d l n).pd) + (Ln.OweA d l n).pr) lad Ad cd bs Ab cb w hp.rd hp.rd)) rfl rfl rfl ?_
    refine oj_step (y_move rfl) rfl rfl rfl ?_
    refine oj_step (y_extract rfl rfl) rfl rfl rfl ?_
    refine oj_step (y_extract rfl rfl) rfl rfl rfl ?_
    refine oj_alloc Tryz.zeroValue63 rfl rfl (fun b9 => ?_)
    refine oj_store rfl rfl rfl rfl Tryz.sizeOf63 rfl ?_
    refine oj_step (y_assign rfl) rfl rfl rfl ?_
    refine oj_nil ?_
    refine ej_th (cj_seq (cj_seq ?_))
    refine cj_regionG (gj_step (y_move rfl) rfl rfl rfl (gj_step (y_neq rfl rfl) rfl rfl rfl (gj_step (y_move rfl) rfl rfl rfl (gj_g 3 75 78 rfl rfl rfl rfl (fun hg75 => gj_yes rfl rfl rfl (y_fa0 fa63_0 rfl) rfl rfl (gj_yes rfl rfl rfl (y_load1 Tryz.isAgg3 rfl rfl) rfl rfl (gj_yes rfl rfl rfl (y_eql rfl rfl) rfl rfl (gj_nil rfl)))) (gj_step (y_or rfl rfl rfl) rfl rfl rfl (gj_nil ?_))))))
    refine ej_th ?_
    refine cj_cond rfl (fun h79 => ?_) (fun h79 => ?_)
    · have h79b := h79
      try simp only [sxb] at h79
      refine cj_seq ?_
      refine cj_regionG ?_
      refine gj_step (y_fa fa63_1 rfl) rfl rfl rfl (gj_step (y_load1 Tryz.isAgg3 rfl rfl) rfl rfl rfl (gj_step (y_eql rfl rfl) rfl rfl rfl (gj_step (y_move rfl) rfl rfl rfl (?_))))
      refine gj_g 1 83 84 rfl rfl rfl rfl (fun hg83 => gj_yes rfl rfl rfl (y_call Tryz.call13 rfl (fun w hp => k_sold07 w)) rfl rfl (gj_nil rfl)) ?_
      refine gj_step (y_and rfl rfl rfl) rfl rfl rfl (gj_step (y_assign rfl) rfl rfl rfl (?_))
      refine gj_nil ?_
      refine ej_th (cj_ret (ej_then_ret ?_))
      refine ej_ret1 rfl Tryz.results4 rfl (fun w' hp => ⟨?_, hp.below⟩)
      have h0 : (Au.SellV st (co + ((Ln.OweA d l n).ch - (Ln.OweA d l n).pd) + (Ln.OweA d l n).pr) lad bs).price = 0 := sold_zero (by simp only [Bool.or_eq_true, bne_iff_ne, beq_iff_eq] at h79b; exact h79b)
      rw [h0]; rfl
    · have h79b := h79
      try simp only [sxb] at h79
      have hy0 : (Au.SellE st (co + ((Ln.OweA d l n).ch - (Ln.OweA d l n).pd) + (Ln.OweA d l n).pr) lad bs) = 0 ∧ (Au.SellV st (co + ((Ln.OweA d l n).ch - (Ln.OweA d l n).pd) + (Ln.OweA d l n).pr) lad bs).winner ≠ -1 := by
        simp only [Bool.or_eq_false_iff, bne_eq_false_iff_eq, beq_eq_false_iff_ne] at h79b
        exact h79b
      obtain ⟨hy1, hy2⟩ := hy0
      obtain ⟨k1, k2⟩ := sold_least hy1 hy2
      obtain ⟨k3, k4⟩ := sold_bd hy1 hy2
      refine cj_skip (ej_th (cj_seq (cj_region ?_)))
      refine oj_step (y_fa fa63_1 rfl) rfl rfl rfl ?_
      refine oj_step (y_load1 Tryz.isAgg3 rfl rfl) rfl rfl rfl ?_
      refine oj_step (y_fa0 fa42_0 rfl) rfl rfl rfl ?_
      refine oj_step (y_load1 Tryz.isAgg3 rfl rfl) rfl rfl rfl ?_
      refine oj_step (y_fa fa57_3 rfl) rfl rfl rfl ?_
      refine oj_step (y_load1 Tryz.isAgg3 rfl rfl) rfl rfl rfl ?_
      refine oj_step (y_build st72 rfl rfl) rfl rfl rfl ?_
      refine oj_step (y_move rfl) rfl rfl rfl ?_
      refine oj_step (y_build st72 rfl rfl) rfl rfl rfl ?_
      refine oj_step (y_fa0 fa42_0 rfl) rfl rfl rfl ?_
      refine oj_step (y_load1 Tryz.isAgg3 rfl rfl) rfl rfl rfl ?_
      refine oj_step (y_build st72 rfl rfl) rfl rfl rfl ?_
      refine oj_buildSlice (cs := [.int .i64 0, .int .i64 co, .int .i64 1, .int .i64 ((Ln.OweA d l n).ch - (Ln.OweA d l n).pd), .int .i64 2, .int .i64 (Ln.OweA d l n).pr]) [.int .i64 0, .int .i64 0, .int .i64 0, .int .i64 0, .int .i64 0, .int .i64 0] Tryz.underlying73 Tryz.sizeOf72 Tryz.zeroValue72 rfl rfl (by kernel_rfl) (by kernel_rfl) rfl (fun b99 => ?_)
      refine oj_step (y_build st75 rfl rfl) rfl rfl rfl ?_
      refine oj_buildSlice (cs := [.string sIt, .int .i64 (Ln.OweA d l n).pr, .slice (some ⟨b99, 0, none⟩) 3 3]) [.string ⟨#[]⟩, .int .i64 0, .slice none 0 0] Tryz.underlying76 Tryz.sizeOf75 Tryz.zeroValue75 rfl rfl (by kernel_rfl) (by kernel_rfl) rfl (fun b101 => ?_)
      refine oj_callR (X := { z : Option Addr × Nat × List Pu.PorV × Nat × Nat // z.2.2.1.map Pu.PorV.p = [⟨(Au.SellV st (co + ((Ln.OweA d l n).ch - (Ln.OweA d l n).pd) + (Ln.OweA d l n).pr) lad bs).price, [co, ((Ln.OweA d l n).ch - (Ln.OweA d l n).pd), (Ln.OweA d l n).pr], (Au.SellV st (co + ((Ln.OweA d l n).ch - (Ln.OweA d l n).pd) + (Ln.OweA d l n).pr) lad bs).price - co - ((Ln.OweA d l n).ch - (Ln.OweA d l n).pd) - (Ln.OweA d l n).pr⟩] }) (fun z => .tuple #[.slice z.1.1 z.1.2.2.1.length z.1.2.1, .int .i64 0]) (fun z => [sl (fun b => z.1.2.2.2.1 ≤ b ∧ b < z.1.2.2.2.2) 3 Pu.encPo z.1.1 z.1.2.2.1, Pu.rowsP (fun b => z.1.2.2.2.1 ≤ b ∧ b < z.1.2.2.2.2) z.1.2.2.1]) Tryz.call15 rfl (fun w1 hp => by
        have hk := Pu.k_Portions (Au.SellV st (co + ((Ln.OweA d l n).ch - (Ln.OweA d l n).pd) + (Ln.OweA d l n).pr) lad bs).price [partIt (some ⟨b99, 0, none⟩) co ((Ln.OweA d l n).ch - (Ln.OweA d l n).pd) (Ln.OweA d l n).pr] (some ⟨b101, 0, none⟩) 1 w1 (hp.rdLit (b := b101) (sz := 3) (enc := Pu.encPa) [partIt (some ⟨b99, 0, none⟩) co ((Ln.OweA d l n).ch - (Ln.OweA d l n).pd) (Ln.OweA d l n).pr] (fun _ => rfl) rfl (by unfold maxLen; simp)) (Nat.le_refl 1) (fun p h => by
          rw [List.mem_singleton.1 h]
          exact ⟨(hp.rdLit (b := b99) (sz := 2) (enc := Pu.encDu) [⟨0, co⟩, ⟨1, ((Ln.OweA d l n).ch - (Ln.OweA d l n).pd)⟩, ⟨2, (Ln.OweA d l n).pr⟩] (fun _ => rfl) rfl (by unfold maxLen; simp)), show ByteArray.size sIt ≤ 9223372036854775807 by decide⟩)
        obtain ⟨hq1, hq2⟩ := por_it (A := some ⟨b99, 0, none⟩) (cost := co) (due := ((Ln.OweA d l n).ch - (Ln.OweA d l n).pd)) (pr := (Ln.OweA d l n).pr) (n := (Au.SellV st (co + ((Ln.OweA d l n).ch - (Ln.OweA d l n).pd) + (Ln.OweA d l n).pr) lad bs).price) (by omega) (by omega) (by omega) (by omega) (by omega)
        rw [hq1, hq2] at hk
        exact hk.mono fun e w2 ⟨A, c, out, h1, h2, h3, h4, h5⟩ => ⟨⟨(A, c, out, w1.heap.size, w2.heap.size), h5⟩, h1, h2, fun g hg => by
          simp only [List.mem_cons, List.mem_nil_iff, or_false] at hg
          rcases hg with rfl | rfl
          · exact ⟨h3, fun b hb => .inr hb⟩
          · exact ⟨h4, fun b hb => .inr hb⟩⟩) rfl ?_
      rintro ⟨⟨A102, c102, o1, n102, m102⟩, ho1⟩
      have ho1 : o1.map Pu.PorV.p = [⟨(Au.SellV st (co + ((Ln.OweA d l n).ch - (Ln.OweA d l n).pd) + (Ln.OweA d l n).pr) lad bs).price, [co, ((Ln.OweA d l n).ch - (Ln.OweA d l n).pd), (Ln.OweA d l n).pr], (Au.SellV st (co + ((Ln.OweA d l n).ch - (Ln.OweA d l n).pd) + (Ln.OweA d l n).pr) lad bs).price - co - ((Ln.OweA d l n).ch - (Ln.OweA d l n).pd) - (Ln.OweA d l n).pr⟩] := ho1
      obtain ⟨y, rfl, hy⟩ : ∃ y, o1 = [y] ∧ y.p = ⟨(Au.SellV st (co + ((Ln.OweA d l n).ch - (Ln.OweA d l n).pd) + (Ln.OweA d l n).pr) lad bs).price, [co, ((Ln.OweA d l n).ch - (Ln.OweA d l n).pd), (Ln.OweA d l n).pr], (Au.SellV st (co + ((Ln.OweA d l n).ch - (Ln.OweA d l n).pd) + (Ln.OweA d l n).pr) lad bs).price - co - ((Ln.OweA d l n).ch - (Ln.OweA d l n).pd) - (Ln.OweA d l n).pr⟩ := by
        rcases o1 with _ | ⟨y, _ | ⟨z, t⟩⟩
        · cases ho1
        · exact ⟨y, rfl, by simpa using ho1⟩
        · simp at ho1
      dsimp only [List.cons_append, List.nil_append]
      refine oj_step (y_move rfl) rfl rfl rfl ?_
      refine oj_step (y_extract rfl rfl) rfl rfl rfl ?_
      refine oj_step (y_extract rfl rfl) rfl rfl rfl ?_
      refine oj_step (y_assign rfl) rfl rfl rfl ?_
      refine oj_step (y_assign rfl) rfl rfl rfl ?_
      refine oj_nil ?_
      refine ej_th (cj_seq (cj_seq ?_))
      refine cj_regionG (gj_step (y_move rfl) rfl rfl rfl (gj_step (y_neq rfl rfl) rfl rfl rfl (gj_step (y_move rfl) rfl rfl rfl (gj_g 3 107 110 rfl rfl rfl rfl (fun hg107 => gj_yes rfl rfl rfl (y_move rfl) rfl rfl (gj_yes rfl rfl rfl (y_lenA Tryz.underlying68 rfl) rfl rfl (gj_yes rfl rfl rfl (y_neq rfl rfl) rfl rfl (gj_nil rfl)))) (gj_step (y_or rfl rfl rfl) rfl rfl rfl (gj_step (y_move rfl) rfl rfl rfl (gj_g 4 112 116 rfl rfl rfl rfl (fun hg112 => gj_yes rfl rfl rfl (y_fa fa63_1 rfl) rfl rfl (gj_yes rfl rfl rfl (y_load1 Tryz.isAgg3 rfl rfl) rfl rfl (gj_yes rfl rfl rfl (y_move rfl) rfl rfl (gj_yes rfl rfl rfl (y_lss rfl rfl) rfl rfl (gj_nil rfl))))) (gj_step (y_or rfl rfl rfl) rfl rfl rfl (gj_nil ?_)))))))))
      refine ej_th ?_
      refine cj_cond rfl (fun h117 => ?_) (fun h117 => ?_)
      · exfalso
        simp at h117
        omega
      · have h117b := h117
        try simp only [sxb] at h117
        have hpp : y.paid = [co, ((Ln.OweA d l n).ch - (Ln.OweA d l n).pd), (Ln.OweA d l n).pr] := congrArg Pu.PorP.paid hy
        have hpl : y.left = (Au.SellV st (co + ((Ln.OweA d l n).ch - (Ln.OweA d l n).pd) + (Ln.OweA d l n).pr) lad bs).price - co - ((Ln.OweA d l n).ch - (Ln.OweA d l n).pd) - (Ln.OweA d l n).pr := congrArg Pu.PorP.left hy
        refine cj_addS (sl (fun b => n102 ≤ b ∧ b < m102) 1 enInt y.A y.paid) (fun w1 hp => ⟨(hp.shared _ (.tail _ (.head _))).1 y (List.mem_singleton.2 rfl), fun b hb => ⟨(hp.shared _ (.tail _ (.head _))).2.1 b hb, fun g hg => (hp.shared _ (.tail _ (.head _))).2.2 g hg b hb⟩⟩) ?_
        refine cj_skip (ej_th (cj_seq ?_))
        refine cj_plan 48 (by kernel_rfl) (by kernel_rfl) ?_
        refine pl_y 0 rfl (y_move rfl) rfl rfl rfl rfl (by kernel_rfl) ?_
        refine pl_y 1 rfl (y_ixR (reads_sl) Tryz.underlying68 Tryz.sizeOf79 rfl rfl (⟨by omega, by simp⟩)) rfl rfl rfl rfl (by kernel_rfl) ?_
        refine pl_y 2 rfl (y_faE fa79_1 rfl) rfl rfl rfl rfl (by kernel_rfl) ?_
        refine pl_y 3 rfl (y_ld1 (reads_sl) Tryz.isAgg26 rfl (rfl) rfl) rfl rfl rfl rfl (by kernel_rfl) ?_
        refine pl_y 4 rfl (y_fa fa57_3 rfl) rfl rfl rfl rfl (by kernel_rfl) ?_
        refine pl_y 5 rfl (y_load1 Tryz.isAgg3 rfl rfl) rfl rfl rfl rfl (by kernel_rfl) ?_
        refine pl_y 6 rfl (y_move rfl) rfl rfl rfl rfl (by kernel_rfl) ?_
        refine pl_y 7 rfl (y_fa0 fa42_0 rfl) rfl rfl rfl rfl (by kernel_rfl) ?_
        refine pl_y 8 rfl (y_load1 Tryz.isAgg3 rfl rfl) rfl rfl rfl rfl (by kernel_rfl) ?_
        refine pl_w1 9 (by kernel_rfl) rfl rfl (pl_fire rfl rfl rfl (by kernel_rfl) ?_)
        refine oj_buildSlice [.int .i64 0, .int .i64 0, .int .i64 0] Tryz.underlying26 Tryz.sizeOf3 Tryz.zeroValue3 rfl rfl (by kernel_rfl) rfl rfl (fun b127 => ?_)
        refine oj_nil ?_
        refine ej_pl (lt_w (by kernel_rfl) (lt_y (y_fa0 fa42_0 rfl) rfl (lt_w (by kernel_rfl) (lt_w (by kernel_rfl) (lt_y (y_fa fa57_3 rfl) rfl (lt_y (y_ld1 (reads_sl) Tryz.isAgg26 rfl (rfl) rfl) rfl (lt_y (y_faE fa79_1 rfl) rfl (lt_y (y_ixR (reads_sl) Tryz.underlying68 Tryz.sizeOf79 rfl rfl (⟨by omega, by simp⟩)) rfl (lt_y (y_move rfl) rfl (lt_nil)))))))))) ?_
        refine pl_y 10 rfl (y_call Tryz.call16 rfl (fun w hp => k_Same y.paid [co, ((Ln.OweA d l n).ch - (Ln.OweA d l n).pd), (Ln.OweA d l n).pr] y.A (some ⟨b127, 0, none⟩) y.c 3 w hp.rd (hp.rdLit (b := b127) (sz := 1) (enc := enInt) [co, ((Ln.OweA d l n).ch - (Ln.OweA d l n).pd), (Ln.OweA d l n).pr] (fun _ => rfl) rfl (by unfold maxLen; simp)))) rfl rfl rfl rfl (by kernel_rfl) ?_
        refine pl_y 11 rfl (y_move rfl) rfl rfl rfl rfl (by kernel_rfl) ?_
        refine pl_case 129 rfl (fun hg129 => ?_) (fun hg129 => ?_)
        · refine pl_yY 12 rfl rfl rfl rfl hg129 (y_move rfl) rfl rfl rfl (by kernel_rfl) ?_
          refine pl_yY 13 rfl rfl rfl rfl hg129 (y_ixR (reads_sl) Tryz.underlying68 Tryz.sizeOf79 rfl rfl (⟨by omega, by simp⟩)) rfl rfl rfl (by kernel_rfl) ?_
          refine pl_yY 14 rfl rfl rfl rfl hg129 (y_faE fa79_2 rfl) rfl rfl rfl (by kernel_rfl) ?_
          refine pl_yY 15 rfl rfl rfl rfl hg129 (y_ld1 (reads_sl) Tryz.isAgg3 rfl (rfl) rfl) rfl rfl rfl (by kernel_rfl) ?_
          refine pl_yY 16 rfl rfl rfl rfl hg129 (y_fa fa63_1 rfl) rfl rfl rfl (by kernel_rfl) ?_
          refine pl_yY 17 rfl rfl rfl rfl hg129 (y_load1 Tryz.isAgg3 rfl rfl) rfl rfl rfl (by kernel_rfl) ?_
          refine pl_yY 18 rfl rfl rfl rfl hg129 (y_move rfl) rfl rfl rfl (by kernel_rfl) ?_
          refine pl_yY 19 rfl rfl rfl rfl hg129 (y_sub rfl rfl (by omega)) rfl rfl rfl (by kernel_rfl) ?_
          refine pl_yY 20 rfl rfl rfl rfl hg129 (y_eql rfl rfl) rfl rfl rfl (by kernel_rfl) ?_
          refine pl_y 21 rfl (y_pickT rfl hg129 rfl) rfl rfl rfl rfl (by kernel_rfl) ?_
          refine pl_y 22 rfl (y_move rfl) rfl rfl rfl rfl (by kernel_rfl) ?_
          refine pl_case 140 rfl (fun hg140 => ?_) (fun hg140 => ?_)
          · refine pl_yY 23 rfl rfl rfl rfl hg140 (y_move rfl) rfl rfl rfl (by kernel_rfl) ?_
            refine pl_yY 24 rfl rfl rfl rfl hg140 (y_move rfl) rfl rfl rfl (by kernel_rfl) ?_
            refine pl_yY 25 rfl rfl rfl rfl hg140 (y_leq rfl rfl) rfl rfl rfl (by kernel_rfl) ?_
            refine pl_y 26 rfl (y_pickT rfl hg140 rfl) rfl rfl rfl rfl (by kernel_rfl) ?_
            refine pl_y 27 rfl (y_move rfl) rfl rfl rfl rfl (by kernel_rfl) ?_
            refine pl_case 145 rfl (fun hg145 => ?_) (fun hg145 => ?_)
            · refine pl_yY 28 rfl rfl rfl rfl hg145 (y_move rfl) rfl rfl rfl (by kernel_rfl) ?_
              refine pl_yY 29 rfl rfl rfl rfl hg145 (y_ixR (reads_sl) Tryz.underlying68 Tryz.sizeOf79 rfl rfl (⟨by omega, by simp⟩)) rfl rfl rfl (by kernel_rfl) ?_
              refine pl_yY 30 rfl rfl rfl rfl hg145 (y_faE fa79_2 rfl) rfl rfl rfl (by kernel_rfl) ?_
              refine pl_yY 31 rfl rfl rfl rfl hg145 (y_ld1 (reads_sl) Tryz.isAgg3 rfl (rfl) rfl) rfl rfl rfl (by kernel_rfl) ?_
              refine pl_yY 32 rfl rfl rfl rfl hg145 (y_fa fa57_3 rfl) rfl rfl rfl (by kernel_rfl) ?_
              refine pl_yY 33 rfl rfl rfl rfl hg145 (y_load1 Tryz.isAgg3 rfl rfl) rfl rfl rfl (by kernel_rfl) ?_
              refine pl_yY 34 rfl rfl rfl rfl hg145 (y_add rfl rfl (by omega)) rfl rfl rfl (by kernel_rfl) ?_
              refine pl_yY 35 rfl rfl rfl rfl hg145 (y_move rfl) rfl rfl rfl (by kernel_rfl) ?_
              refine pl_yY 36 rfl rfl rfl rfl hg145 (y_add rfl rfl (by omega)) rfl rfl rfl (by kernel_rfl) ?_
              refine pl_yY 37 rfl rfl rfl rfl hg145 (y_fa0 fa42_0 rfl) rfl rfl rfl (by kernel_rfl) ?_
              refine pl_yY 38 rfl rfl rfl rfl hg145 (y_load1 Tryz.isAgg3 rfl rfl) rfl rfl rfl (by kernel_rfl) ?_
              refine pl_yY 39 rfl rfl rfl rfl hg145 (y_add rfl rfl (by omega)) rfl rfl rfl (by kernel_rfl) ?_
              refine pl_yY 40 rfl rfl rfl rfl hg145 (y_fa fa63_1 rfl) rfl rfl rfl (by kernel_rfl) ?_
              refine pl_yY 41 rfl rfl rfl rfl hg145 (y_load1 Tryz.isAgg3 rfl rfl) rfl rfl rfl (by kernel_rfl) ?_
              refine pl_yY 42 rfl rfl rfl rfl hg145 (y_geq rfl rfl) rfl rfl rfl (by kernel_rfl) ?_
              refine pl_y 43 rfl (y_pickT rfl hg145 rfl) rfl rfl rfl rfl (by kernel_rfl) ?_
              refine pl_y 44 rfl (y_move rfl) rfl rfl rfl rfl (by kernel_rfl) ?_
              refine pl_case 162 rfl (fun hg162 => ?_) (fun hg162 => ?_)
              · refine pl_yY 45 rfl rfl rfl rfl hg162 (y_call Tryz.call13 rfl (fun w hp => k_sold07 w)) rfl rfl rfl (by kernel_rfl) ?_
                refine pl_y 46 rfl (y_pickT rfl hg162 rfl) rfl rfl rfl rfl (by kernel_rfl) ?_
                refine pl_y 47 rfl (y_assign rfl) rfl rfl rfl rfl (by kernel_rfl) ?_
                refine pl_end (by kernel_rfl) ?_
                refine ej_th (cj_ret ?_)
                refine ej_ret1 rfl Tryz.results4 rfl (fun w' hp => ⟨?_, hp.below⟩)
                first
                | rfl
                | (exfalso; simp only [decide_eq_false_iff_not] at *; exact absurd hpp (by assumption))
                | (exfalso; simp only [gd, hpp, hpl, decide_true, Bool.and_eq_false_iff, decide_eq_false_iff_not, beq_eq_false_iff_ne] at *; omega)
                | (exfalso; simp [gd, hpp, hpl] at *; omega)
              · refine pl_yN 45 rfl rfl rfl rfl hg162 rfl rfl rfl (by kernel_rfl) ?_
                refine pl_y 46 rfl (y_pickF rfl hg162 rfl) rfl rfl rfl rfl (by kernel_rfl) ?_
                refine pl_y 47 rfl (y_assign rfl) rfl rfl rfl rfl (by kernel_rfl) ?_
                refine pl_end (by kernel_rfl) ?_
                refine ej_th (cj_ret ?_)
                refine ej_ret1 rfl Tryz.results4 rfl (fun w' hp => ⟨?_, hp.below⟩)
                first
                | rfl
                | (exfalso; simp only [decide_eq_false_iff_not] at *; exact absurd hpp (by assumption))
                | (exfalso; simp only [gd, hpp, hpl, decide_true, Bool.and_eq_false_iff, decide_eq_false_iff_not, beq_eq_false_iff_ne] at *; omega)
                | (exfalso; simp [gd, hpp, hpl] at *; omega)
            · refine pl_yN 28 rfl rfl rfl rfl hg145 rfl rfl rfl (by kernel_rfl) ?_
              refine pl_yN 29 rfl rfl rfl rfl hg145 rfl rfl rfl (by kernel_rfl) ?_
              refine pl_yN 30 rfl rfl rfl rfl hg145 rfl rfl rfl (by kernel_rfl) ?_
              refine pl_yN 31 rfl rfl rfl rfl hg145 rfl rfl rfl (by kernel_rfl) ?_
              refine pl_yN 32 rfl rfl rfl rfl hg145 rfl rfl rfl (by kernel_rfl) ?_
              refine pl_yN 33 rfl rfl rfl rfl hg145 rfl rfl rfl (by kernel_rfl) ?_
              refine pl_yN 34 rfl rfl rfl rfl hg145 rfl rfl rfl (by kernel_rfl) ?_
              refine pl_yN 35 rfl rfl rfl rfl hg145 rfl rfl rfl (by kernel_rfl) ?_
              refine pl_yN 36 rfl rfl rfl rfl hg145 rfl rfl rfl (by kernel_rfl) ?_
              refine pl_yN 37 rfl rfl rfl rfl hg145 rfl rfl rfl (by kernel_rfl) ?_
              refine pl_yN 38 rfl rfl rfl rfl hg145 rfl rfl rfl (by kernel_rfl) ?_
              refine pl_yN 39 rfl rfl rfl rfl hg145 rfl rfl rfl (by kernel_rfl) ?_
              refine pl_yN 40 rfl rfl rfl rfl hg145 rfl rfl rfl (by kernel_rfl) ?_
              refine pl_yN 41 rfl rfl rfl rfl hg145 rfl rfl rfl (by kernel_rfl) ?_
              refine pl_yN 42 rfl rfl rfl rfl hg145 rfl rfl rfl (by kernel_rfl) ?_
              refine pl_y 43 rfl (y_pickF rfl hg145 rfl) rfl rfl rfl rfl (by kernel_rfl) ?_
              refine pl_y 44 rfl (y_move rfl) rfl rfl rfl rfl (by kernel_rfl) ?_
              refine pl_yN 45 rfl rfl rfl rfl rfl rfl rfl rfl (by kernel_rfl) ?_
              refine pl_y 46 rfl (y_pickF rfl rfl rfl) rfl rfl rfl rfl (by kernel_rfl) ?_
              refine pl_y 47 rfl (y_assign rfl) rfl rfl rfl rfl (by kernel_rfl) ?_
              refine pl_end (by kernel_rfl) ?_
              refine ej_th (cj_ret ?_)
              refine ej_ret1 rfl Tryz.results4 rfl (fun w' hp => ⟨?_, hp.below⟩)
              first
              | rfl
              | (exfalso; simp only [decide_eq_false_iff_not] at *; exact absurd hpp (by assumption))
              | (exfalso; simp only [gd, hpp, hpl, decide_true, Bool.and_eq_false_iff, decide_eq_false_iff_not, beq_eq_false_iff_ne] at *; omega)
              | (exfalso; simp [gd, hpp, hpl] at *; omega)
          · refine pl_yN 23 rfl rfl rfl rfl hg140 rfl rfl rfl (by kernel_rfl) ?_
            refine pl_yN 24 rfl rfl rfl rfl hg140 rfl rfl rfl (by kernel_rfl) ?_
            refine pl_yN 25 rfl rfl rfl rfl hg140 rfl rfl rfl (by kernel_rfl) ?_
            refine pl_y 26 rfl (y_pickF rfl hg140 rfl) rfl rfl rfl rfl (by kernel_rfl) ?_
            refine pl_y 27 rfl (y_move rfl) rfl rfl rfl rfl (by kernel_rfl) ?_
            refine pl_yN 28 rfl rfl rfl rfl rfl rfl rfl rfl (by kernel_rfl) ?_
            refine pl_yN 29 rfl rfl rfl rfl rfl rfl rfl rfl (by kernel_rfl) ?_
            refine pl_yN 30 rfl rfl rfl rfl rfl rfl rfl rfl (by kernel_rfl) ?_
            refine pl_yN 31 rfl rfl rfl rfl rfl rfl rfl rfl (by kernel_rfl) ?_
            refine pl_yN 32 rfl rfl rfl rfl rfl rfl rfl rfl (by kernel_rfl) ?_
            refine pl_yN 33 rfl rfl rfl rfl rfl rfl rfl rfl (by kernel_rfl) ?_
            refine pl_yN 34 rfl rfl rfl rfl rfl rfl rfl rfl (by kernel_rfl) ?_
            refine pl_yN 35 rfl rfl rfl rfl rfl rfl rfl rfl (by kernel_rfl) ?_
            refine pl_yN 36 rfl rfl rfl rfl rfl rfl rfl rfl (by kernel_rfl) ?_
            refine pl_yN 37 rfl rfl rfl rfl rfl rfl rfl rfl (by kernel_rfl) ?_
            refine pl_yN 38 rfl rfl rfl rfl rfl rfl rfl rfl (by kernel_rfl) ?_
            refine pl_yN 39 rfl rfl rfl rfl rfl rfl rfl rfl (by kernel_rfl) ?_
            refine pl_yN 40 rfl rfl rfl rfl rfl rfl rfl rfl (by kernel_rfl) ?_
            refine pl_yN 41 rfl rfl rfl rfl rfl rfl rfl rfl (by kernel_rfl) ?_
            refine pl_yN 42 rfl rfl rfl rfl rfl rfl rfl rfl (by kernel_rfl) ?_
            refine pl_y 43 rfl (y_pickF rfl rfl rfl) rfl rfl rfl rfl (by kernel_rfl) ?_
            refine pl_y 44 rfl (y_move rfl) rfl rfl rfl rfl (by kernel_rfl) ?_
            refine pl_yN 45 rfl rfl rfl rfl rfl rfl rfl rfl (by kernel_rfl) ?_
            refine pl_y 46 rfl (y_pickF rfl rfl rfl) rfl rfl rfl rfl (by kernel_rfl) ?_
            refine pl_y 47 rfl (y_assign rfl) rfl rfl rfl rfl (by kernel_rfl) ?_
            refine pl_end (by kernel_rfl) ?_
            refine ej_th (cj_ret ?_)
            refine ej_ret1 rfl Tryz.results4 rfl (fun w' hp => ⟨?_, hp.below⟩)
            first
            | rfl
            | (exfalso; simp only [decide_eq_false_iff_not] at *; exact absurd hpp (by assumption))
            | (exfalso; simp only [gd, hpp, hpl, decide_true, Bool.and_eq_false_iff, decide_eq_false_iff_not, beq_eq_false_iff_ne] at *; omega)
            | (exfalso; simp [gd, hpp, hpl] at *; omega)
        · refine pl_yN 12 rfl rfl rfl rfl hg129 rfl rfl rfl (by kernel_rfl) ?_
          refine pl_yN 13 rfl rfl rfl rfl hg129 rfl rfl rfl (by kernel_rfl) ?_
          refine pl_yN 14 rfl rfl rfl rfl hg129 rfl rfl rfl (by kernel_rfl) ?_
          refine pl_yN 15 rfl rfl rfl rfl hg129 rfl rfl rfl (by kernel_rfl) ?_
          refine pl_yN 16 rfl rfl rfl rfl hg129 rfl rfl rfl (by kernel_rfl) ?_
          refine pl_yN 17 rfl rfl rfl rfl hg129 rfl rfl rfl (by kernel_rfl) ?_
          refine pl_yN 18 rfl rfl rfl rfl hg129 rfl rfl rfl (by kernel_rfl) ?_
          refine pl_yN 19 rfl rfl rfl rfl hg129 rfl rfl rfl (by kernel_rfl) ?_
          refine pl_yN 20 rfl rfl rfl rfl hg129 rfl rfl rfl (by kernel_rfl) ?_
          refine pl_y 21 rfl (y_pickF rfl hg129 rfl) rfl rfl rfl rfl (by kernel_rfl) ?_
          refine pl_y 22 rfl (y_move rfl) rfl rfl rfl rfl (by kernel_rfl) ?_
          refine pl_yN 23 rfl rfl rfl rfl rfl rfl rfl rfl (by kernel_rfl) ?_
          refine pl_yN 24 rfl rfl rfl rfl rfl rfl rfl rfl (by kernel_rfl) ?_
          refine pl_yN 25 rfl rfl rfl rfl rfl rfl rfl rfl (by kernel_rfl) ?_
          refine pl_y 26 rfl (y_pickF rfl rfl rfl) rfl rfl rfl rfl (by kernel_rfl) ?_
          refine pl_y 27 rfl (y_move rfl) rfl rfl rfl rfl (by kernel_rfl) ?_
          refine pl_yN 28 rfl rfl rfl rfl rfl rfl rfl rfl (by kernel_rfl) ?_
          refine pl_yN 29 rfl rfl rfl rfl rfl rfl rfl rfl (by kernel_rfl) ?_
          refine pl_yN 30 rfl rfl rfl rfl rfl rfl rfl rfl (by kernel_rfl) ?_
          refine pl_yN 31 rfl rfl rfl rfl rfl rfl rfl rfl (by kernel_rfl) ?_
          refine pl_yN 32 rfl rfl rfl rfl rfl rfl rfl rfl (by kernel_rfl) ?_
          refine pl_yN 33 rfl rfl rfl rfl rfl rfl rfl rfl (by kernel_rfl) ?_
          refine pl_yN 34 rfl rfl rfl rfl rfl rfl rfl rfl (by kernel_rfl) ?_
          refine pl_yN 35 rfl rfl rfl rfl rfl rfl rfl rfl (by kernel_rfl) ?_
          refine pl_yN 36 rfl rfl rfl rfl rfl rfl rfl rfl (by kernel_rfl) ?_
          refine pl_yN 37 rfl rfl rfl rfl rfl rfl rfl rfl (by kernel_rfl) ?_
          refine pl_yN 38 rfl rfl rfl rfl rfl rfl rfl rfl (by kernel_rfl) ?_
          refine pl_yN 39 rfl rfl rfl rfl rfl rfl rfl rfl (by kernel_rfl) ?_
          refine pl_yN 40 rfl rfl rfl rfl rfl rfl rfl rfl (by kernel_rfl) ?_
          refine pl_yN 41 rfl rfl rfl rfl rfl rfl rfl rfl (by kernel_rfl) ?_
          refine pl_yN 42 rfl rfl rfl rfl rfl rfl rfl rfl (by kernel_rfl) ?_
          refine pl_y 43 rfl (y_pickF rfl rfl rfl) rfl rfl rfl rfl (by kernel_rfl) ?_
          refine pl_y 44 rfl (y_move rfl) rfl rfl rfl rfl (by kernel_rfl) ?_
          refine pl_yN 45 rfl rfl rfl rfl rfl rfl rfl rfl (by kernel_rfl) ?_
          refine pl_y 46 rfl (y_pickF rfl rfl rfl) rfl rfl rfl rfl (by kernel_rfl) ?_
          refine pl_y 47 rfl (y_assign rfl) rfl rfl rfl rfl (by kernel_rfl) ?_
          refine pl_end (by kernel_rfl) ?_
          refine ej_th (cj_ret ?_)
          refine ej_ret1 rfl Tryz.results4 rfl (fun w' hp => ⟨?_, hp.below⟩)
          first
          | rfl
          | (exfalso; simp only [decide_eq_false_iff_not] at *; exact absurd hpp (by assumption))
          | (exfalso; simp only [gd, hpp, hpl, decide_true, Bool.and_eq_false_iff, decide_eq_false_iff_not, beq_eq_false_iff_ne] at *; omega)
          | (exfalso; simp [gd, hpp, hpl] at *; omega)

end Go.Proofs.YtppfniekcgnmjaaGreatDoor.To
