/- Walks of functions of the program. -/
import Derived.Test.YtafmgkiddhappaaDoorWD
import Derived.Test.YtafmgkiddhappaaDoorPE
import Derived.Shelf.SlGeneric
import Derived.Shelf.SlLaysF
import Derived.WalkKit
namespace Go.Proofs.YtafmgkiddhappaaDoor
open Go.Sx Go.RowKit
set_option maxRecDepth 20000
theorem k_of1 (sales : List Sale) (fade : List Int) (metal day few : Int) (As Af : Option Addr) (cs cf : Nat) (kind : Int) (bm bk : Nat) (fp : Nat → Prop) : Iter Tryd.prog 97 #[.pointer (some ⟨bm, 0, none⟩), .pointer (some ⟨bk, 0, none⟩)] (fun s : Sale => [.agg (encSale s).toArray]) (ofKind sales kind) [ownB bk (cellsB 3 [.int .i64 kind]), ownB bm (cellsB 110 [.slice As sales.length cs, .slice Af fade.length cf, .int .i64 metal, .int .i64 day, .int .i64 few]), sl fp 5 encSale As sales] := by
  intro l J Jx W hJ hJx hS hY h0
  have hb := hS 0 W h0
  have hlen : sales.length ≤ 9223372036854775807 := by
    have := (hb _ (List.mem_cons_of_mem _ (List.mem_cons_of_mem _ (List.mem_cons_self ..)))).1
    have h1 : sales.length ≤ maxLen := this.1
    unfold maxLen at h1; omega
  have hargs : (#[.func (.yield l) #[] #[]] ++ #[.pointer (some ⟨bm, 0, none⟩), .pointer (some ⟨bk, 0, none⟩)] : Array Value) = [.func (.yield l) #[] #[], .pointer (some ⟨bm, 0, none⟩), .pointer (some ⟨bk, 0, none⟩)].toArray := rfl
  rw [hargs]
  refine enter_pure (args := [.func (.yield l) #[] #[], .pointer (some ⟨bm, 0, none⟩), .pointer (some ⟨bk, 0, none⟩)]) [ownB bk (cellsB 3 [.int .i64 kind]), ownB bm (cellsB 110 [.slice As sales.length cs, .slice Af fade.length cf, .int .i64 metal, .int .i64 day, .int .i64 few]), sl fp 5 encSale As sales] Tryd.func97 rfl (by rw [Tryd.ntmps97]; simp) hb ?_
  refine cj_seq ?_
  refine cj_regionG (gj_step (y_fa0 fa110_0 rfl) rfl rfl rfl (gj_step (y_fa0 fa25_0 rfl) rfl rfl rfl (gj_step (y_loadS1 Tryd.isAgg22 rfl rfl) rfl rfl rfl (gj_step (y_lenA Tryd.underlying22 rfl) rfl rfl rfl (gj_step (y_move rfl) rfl rfl rfl (gj_nil ?_))))))
  refine ej_th (cj_block ?_)
  refine cj_loopB (X := Nat) (fun i => i ≤ sales.length) (fun i => [(0, .func (.yield l) #[] #[]), (1, .pointer (some ⟨bm, 0, none⟩)), (2, .pointer (some ⟨bk, 0, none⟩)), (8, .slice As sales.length cs), (9, .int .i64 sales.length), (10, .int .i64 i)]) (fun i w => J (cnt sales kind i) w) [ownB bk (cellsB 3 [.int .i64 kind]), ownB bm (cellsB 110 [.slice As sales.length cs, .slice Af fade.length cf, .int .i64 metal, .int .i64 day, .int .i64 few]), sl fp 5 encSale As sales] (fun i => sales.length - i) 0 (Nat.zero_le _) ⟨rfl, rfl, rfl, rfl, rfl, rfl, trivial⟩ (fun w hp => hJ _ _ _ h0 hp.below) (fun i w h => hS _ w h) ?_
  intro i W1 hi hJ1
  refine cj_seq ?_
  refine cj_regionG (gj_step (y_lss rfl rfl) rfl rfl rfl (gj_nil ?_))
  refine ej_th (cj_seq ?_)
  refine cj_cond rfl (fun h11 => ?_) (fun h11 => ?_)
  · simp only [sxb] at h11
    obtain ⟨s, hx⟩ : ∃ s, sales[i]? = some s := ⟨_, List.getElem?_eq_getElem (by omega)⟩
    refine cj_skip (ej_th (cj_seq (cj_block (cj_seq (cj_region ?_)))))
    refine oj_step (y_ixR (reads_sl) Tryd.underlying22 Tryd.sizeOf56 rfl rfl (⟨by omega, by omega⟩)) rfl rfl rfl ?_
    refine oj_step (y_ldW (reads_sl) Tryd.isAgg56 Tryd.sizeOf56 rfl (hx) (fun _ => rfl)) rfl rfl rfl ?_
    refine oj_alloc Tryd.zeroValue56 rfl rfl (fun b5 => ?_)
    refine oj_store rfl rfl rfl rfl Tryd.sizeOf56 rfl ?_
    refine oj_nil ?_
    refine ej_th (cj_seq ?_)
    refine cj_region ?_
    refine oj_step (y_fa0 fa56_0 rfl) rfl rfl rfl ?_
    refine oj_step (y_load1 Tryd.isAgg3 rfl rfl) rfl rfl rfl ?_
    refine oj_step (y_loadS1 Tryd.isAgg3 rfl rfl) rfl rfl rfl ?_
    refine oj_step (y_eql rfl rfl) rfl rfl rfl ?_
    refine oj_step (y_move rfl) rfl rfl rfl ?_
    by_cases hk : s.kind = kind
    · rw [show (s.kind == kind) = true from beq_iff_eq.2 hk]
      obtain ⟨hc, hget⟩ := cnt_yes sales kind i s hx hk
      refine oj_yes rfl rfl rfl ?_
      refine oj_step (y_move rfl) rfl rfl rfl ?_
      refine oj_yes rfl rfl rfl ?_
      refine oj_step (y_loadN Tryd.isAgg56 Tryd.sizeOf56 rfl) rfl rfl rfl ?_
      refine oj_yes rfl rfl rfl ?_
      refine oj_yield (T := J (cnt sales kind i + 1)) (U := Jx (cnt sales kind i + 1)) [ownB bk (cellsB 3 [.int .i64 kind]), ownB bm (cellsB 110 [.slice As sales.length cs, .slice Af fade.length cf, .int .i64 metal, .int .i64 day, .int .i64 few]), sl fp 5 encSale As sales] rfl rfl rfl (fun w hp => hY _ s w hget (hJ _ _ _ hJ1 hp.below)) rfl (fun W2 hT => ⟨hS _ W2 hT, ?_⟩) (fun W2 hU => ?_)
      · refine oj_yes rfl rfl rfl ?_
        refine oj_step (y_not rfl) rfl rfl rfl ?_
        refine oj_step (y_pick rfl rfl rfl) rfl rfl rfl ?_
        refine oj_nil ?_
        refine ej_th (cj_cond rfl (fun h => by cases h) (fun _ => ?_))
        refine cj_skip (ej_blk (ej_th ?_))
        refine cj_regionG (gj_step (y_add rfl rfl (by omega)) rfl rfl rfl (gj_step (y_move rfl) rfl rfl rfl (gj_nil ?_)))
        exact ej_nxB (i + 1) (by omega) (by omega) ⟨rfl, rfl, rfl, rfl, rfl, rfl, trivial⟩ (fun w hg => hJ _ _ _ (by rw [hc]; exact hT) hg)
      · refine oj_yes rfl rfl rfl ?_
        refine oj_step (y_not rfl) rfl rfl rfl ?_
        refine oj_step (y_pick rfl rfl rfl) rfl rfl rfl ?_
        refine oj_nil ?_
        refine ej_th (cj_cond rfl (fun _ => ?_) (fun h => by cases h))
        refine cj_ret (ej_blk_ret (ej_then_ret (ej_then_ret (ej_blk_ret ?_))))
        exact ej_ret0 rfl Tryd.results97 (fun w' hp => ⟨⟨_, rfl⟩, .inr ⟨_, hJx _ _ _ hU hp.below⟩⟩)
    · rw [show (s.kind == kind) = false from beq_eq_false_iff_ne.2 hk]
      refine oj_no rfl rfl rfl rfl rfl rfl ?_
      refine oj_no rfl rfl rfl rfl rfl rfl ?_
      refine oj_no rfl rfl rfl rfl rfl rfl ?_
      refine oj_no rfl rfl rfl rfl rfl rfl ?_
      refine oj_step (y_pick rfl rfl rfl) rfl rfl rfl ?_
      refine oj_nil ?_
      refine ej_th (cj_cond rfl (fun h => by cases h) (fun _ => ?_))
      refine cj_skip (ej_blk (ej_th ?_))
      refine cj_regionG (gj_step (y_add rfl rfl (by omega)) rfl rfl rfl (gj_step (y_move rfl) rfl rfl rfl (gj_nil ?_)))
      exact ej_nxB (i + 1) (by omega) (by omega) ⟨rfl, rfl, rfl, rfl, rfl, rfl, trivial⟩ (fun w hg => by rw [cnt_no sales kind i s hx hk]; exact hJ _ _ _ hJ1 hg)
  · simp only [sxb] at h11
    refine cj_exit (ej_then_exit (ej_then_exit (ej_blk_hit ?_)))
    exact ej_end0 rfl Tryd.results97 (fun w' hp => ⟨⟨_, rfl⟩, .inl (hJ _ _ _ (by rw [← cnt_end sales kind i (by omega)]; exact hJ1) hp.below)⟩)

def sortRen : Go.Shelf.Ren := ⟨fun | 6 => 81 | 15 => 99 | 14 => 98 | 28 => 115 | 29 => 116 | 20 => 107 | 21 => 108 | 22 => 109 | 23 => 110 | 24 => 111 | 25 => 112 | 26 => 113 | 27 => 114 | 46 => 120 | 47 => 121 | 48 => 122 | 49 => 123 | 50 => 124 | 57 => 125 | n => n, fun | 22 => 23 | 24 => 3 | 25 => 49 | 3 => 3 | 39 => 163 | 0 => 0 | 53 => 187 | 55 => 189 | 4 => 4 | 46 => 181 | 45 => 180 | 50 => 158 | 5 => 5 | 9 => 9 | 66 => 198 | 70 => 202 | 76 => 204 | 77 => 205 | n => n, fun | n => n⟩
theorem sortLaid : Go.Proofs.SlLaysF.n6 Tryd.prog sortRen where
  mixed := by kernel_rfl
  f6 := ⟨Tryd.f81.name, by kernel_rfl, Tryd.func81.trans (congrArg some (by kernel_rfl))⟩
  f14 := ⟨Tryd.f98.name, by kernel_rfl, Tryd.func98.trans (congrArg some (by kernel_rfl))⟩
  f15 := Tryd.func99.trans (congrArg some (by kernel_rfl))
  f20 := ⟨Tryd.f107.name, by kernel_rfl, Tryd.func107.trans (congrArg some (by kernel_rfl))⟩
  f21 := ⟨Tryd.f108.name, by kernel_rfl, Tryd.func108.trans (congrArg some (by kernel_rfl))⟩
  f22 := ⟨Tryd.f109.name, by kernel_rfl, Tryd.func109.trans (congrArg some (by kernel_rfl))⟩
  f23 := ⟨Tryd.f110.name, by kernel_rfl, Tryd.func110.trans (congrArg some (by kernel_rfl))⟩
  f24 := ⟨Tryd.f111.name, by kernel_rfl, Tryd.func111.trans (congrArg some (by kernel_rfl))⟩
  f25 := ⟨Tryd.f112.name, by kernel_rfl, Tryd.func112.trans (congrArg some (by kernel_rfl))⟩
  f26 := ⟨Tryd.f113.name, by kernel_rfl, Tryd.func113.trans (congrArg some (by kernel_rfl))⟩
  f27 := ⟨Tryd.f114.name, by kernel_rfl, Tryd.func114.trans (congrArg some (by kernel_rfl))⟩
  f28 := Tryd.func115.trans (congrArg some (by kernel_rfl))
  f29 := Tryd.func116.trans (congrArg some (by kernel_rfl))
  f46 := ⟨Tryd.f120.name, by kernel_rfl, Tryd.func120.trans (congrArg some (by kernel_rfl))⟩
  f47 := Tryd.func121.trans (congrArg some (by kernel_rfl))
  f48 := Tryd.func122.trans (congrArg some (by kernel_rfl))
  f49 := ⟨Tryd.f123.name, by kernel_rfl, Tryd.func123.trans (congrArg some (by kernel_rfl))⟩
  f50 := ⟨Tryd.f124.name, by kernel_rfl, Tryd.func124.trans (congrArg some (by kernel_rfl))⟩
  f57 := ⟨Tryd.f125.name, by kernel_rfl, Tryd.func125.trans (congrArg some (by kernel_rfl))⟩
  t0 := Tryd.underlying0
  a0 := Tryd.isAgg0
  z0 := Tryd.sizeOf0
  v0 := Tryd.zeroValue0
  t3 := Tryd.underlying3
  a3 := Tryd.isAgg3
  z3 := Tryd.sizeOf3
  v3 := Tryd.zeroValue3
  t4 := Tryd.underlying4
  a4 := Tryd.isAgg4
  z4 := Tryd.sizeOf4
  v4 := Tryd.zeroValue4
  t5 := Tryd.underlying5
  a5 := Tryd.isAgg5
  z5 := Tryd.sizeOf5
  v5 := Tryd.zeroValue5
  t9 := Tryd.underlying9
  a9 := Tryd.isAgg9
  z9 := Tryd.sizeOf9
  v9 := Tryd.zeroValue9
  t22 := Tryd.underlying23
  a22 := Tryd.isAgg23
  z22 := Tryd.sizeOf23
  v22 := Tryd.zeroValue23
  a24 := Tryd.isAgg3
  z24 := Tryd.sizeOf3
  t25 := Tryd.underlying49
  a25 := Tryd.isAgg49
  z25 := Tryd.sizeOf49
  v25 := Tryd.zeroValue49
  t39 := Tryd.underlying163
  a39 := Tryd.isAgg163
  z39 := Tryd.sizeOf163
  v39 := Tryd.zeroValue163
  t45 := Tryd.underlying180
  a45 := Tryd.isAgg180
  z45 := Tryd.sizeOf180
  v45 := Tryd.zeroValue180
  t46 := Tryd.underlying181
  a46 := Tryd.isAgg181
  z46 := Tryd.sizeOf181
  v46 := Tryd.zeroValue181
  t50 := Tryd.underlying158
  a50 := Tryd.isAgg158
  z50 := Tryd.sizeOf158
  v50 := Tryd.zeroValue158
  t53 := Tryd.underlying187
  a53 := Tryd.isAgg187
  z53 := Tryd.sizeOf187
  v53 := Tryd.zeroValue187
  t55 := Tryd.underlying189
  a55 := Tryd.isAgg189
  z55 := Tryd.sizeOf189
  v55 := Tryd.zeroValue189
  t66 := Tryd.underlying198
  a66 := Tryd.isAgg198
  z66 := Tryd.sizeOf198
  v66 := Tryd.zeroValue198
  t70 := Tryd.underlying202
  a70 := Tryd.isAgg202
  z70 := Tryd.sizeOf202
  v70 := Tryd.zeroValue202
  t76 := Tryd.underlying204
  a76 := Tryd.isAgg204
  z76 := Tryd.sizeOf204
  v76 := Tryd.zeroValue204
  t77 := Tryd.underlying205
  a77 := Tryd.isAgg205
  z77 := Tryd.sizeOf205
  v77 := Tryd.zeroValue205
theorem k_diff (x y : BInt 0 1073741824) (W : World) : Calls Tryd.prog 82 #[.int .i64 x.1, .int .i64 y.1] W (fun e w' => e = .returned (.int .i64 (x.1 - y.1)) ∧ ∃ q, w' = W.drewN q) := by
  have hw : (IntKind.i64).wrap (x.1 - y.1) = x.1 - y.1 := IntWalk.i64_in _ (by have := x.2; have := y.2; omega)
  go_enter Tryd.func82, Tryd.ntmps82
  go_wp2
  go_ret
  exact ⟨rfl, 0, rfl⟩
theorem k_sort (A : Option Addr) (c : Nat) (xs : List Int) (w : World) (hx : ∀ x ∈ xs, 0 ≤ x ∧ x ≤ 1073741824) (hl : xs.length < 4611686018427387904) (ho : (ow 3 1 enInt A c xs).P w) :
    Calls Tryd.prog 81 #[.slice A xs.length c, .func (.func 82) #[] #[]] w (fun en w' => en = .returned (.tuple #[]) ∧ Mut (ow 3 1 enInt A c xs) w w' ∧ (ow 3 1 enInt A c (sortI xs)).P w') :=
  calls_sortI sortLaid 82 0 1073741824 (enters_of Tryd.func82 (by kernel_rfl) rfl) k_diff 3 c A xs w hx hl ho

theorem k_of (sales : List Sale) (fade : List Int) (metal day few : Int) (As Af : Option Addr) (cs cf : Nat) (kind : Int) (w : World)  : Calls Tryd.prog 80 #[.agg #[.slice As sales.length cs, .slice Af fade.length cf, .int .i64 metal, .int .i64 day, .int .i64 few], .int .i64 kind] w (fun e w' => ∃ x : Nat × Nat, e = .returned (.func (.func 97) #[] #[.pointer (some ⟨x.1, 0, none⟩), .pointer (some ⟨x.2, 0, none⟩)]) ∧ Grow w w' ∧ (∀ g ∈ ([] : List Fact), g.P w' ∧ ∀ b, g.fp b → w.heap.size ≤ b ∧ b < w'.heap.size) ∧ ([] : List Fact).Pairwise (fun f g => ∀ b, f.fp b → ¬ g.fp b) ∧ (∀ g ∈ [ownB x.2 (cellsB 3 [.int .i64 kind]), ownB x.1 (cellsB 110 [.slice As sales.length cs, .slice Af fade.length cf, .int .i64 metal, .int .i64 day, .int .i64 few])], g.P w' ∧ ∀ b, g.fp b → w.heap.size ≤ b ∧ b < w'.heap.size ∧ ∀ o ∈ ([] : List Fact), ¬ o.fp b)) := by
  refine enter_pure (args := [.agg #[.slice As sales.length cs, .slice Af fade.length cf, .int .i64 metal, .int .i64 day, .int .i64 few], .int .i64 kind]) [] Tryd.func80 rfl (by rw [Tryd.ntmps80]; simp) (by simp) ?_
  refine cj_seq (cj_region ?_)
  refine oj_box rfl rfl rfl (fun b2 => ?_)
  refine oj_box rfl rfl rfl (fun b3 => ?_)
  refine oj_step (y_assign rfl) rfl rfl rfl ?_
  refine oj_nil ?_
  refine ej_th (cj_seq ?_)
  refine cj_regionG (gj_step (y_makeFunc rfl rfl) rfl rfl rfl (gj_step (y_assign rfl) rfl rfl rfl (gj_nil ?_)))
  refine ej_th (cj_ret ?_)
  exact ej_ret1 rfl Tryd.results80 rfl (fun w' hp => ⟨(b2, b3), rfl, hp.below, by simp, List.Pairwise.nil, fun g hg => ⟨(hp.own g hg).1, fun b hb => ⟨Nat.le_of_not_lt ((hp.own g hg).2 b hb).2, ((hp.own g hg).2 b hb).1, by simp⟩⟩⟩)

theorem k_crafts (sales : List Sale) (fade : List Int) (metal day few : Int) (As Af : Option Addr) (cs cf : Nat) (kind : Int) (w : World) (hs : Rd w 5 encSale As sales) (hf : Rd w 1 enInt Af fade) (hb : badMarket sales fade metal day few = false) : Calls Tryd.prog 55 #[.agg #[.slice As sales.length cs, .slice Af fade.length cf, .int .i64 metal, .int .i64 day, .int .i64 few], .int .i64 kind] w (fun e w' => ∃ A c, e = .returned (.slice A (craftsOf sales fade day kind).length c) ∧ Grow w w' ∧ Res w w' 1 enInt A (craftsOf sales fade day kind)) := by
  have hlen := hs.len
  have hlenf := hf.len
  obtain ⟨hfa, hfl, hme, hda, hfe, hsl, hsa⟩ := badMarket_parts hb
  have hys : ∀ k s, (ofKind sales kind)[k]? = some s → okSale fade.length day s = true := fun k s h => hsa s (List.mem_filter.1 (List.mem_of_getElem? h)).1
  have hkl : (ofKind sales kind).length ≤ 64 := Nat.le_trans (List.length_filter_le ..) hsl
  refine enter_pureM (args := [.agg #[.slice As sales.length cs, .slice Af fade.length cf, .int .i64 metal, .int .i64 day, .int .i64 few], .int .i64 kind]) [sl (fun b => b < w.heap.size) 5 encSale As sales, sl (fun b => b < w.heap.size) 1 enInt Af fade] Tryd.func55 rfl (by rw [Tryd.ntmps55]; simp) (fun g hg => by simp at hg; rcases hg with rfl | rfl; exact ⟨hs, fun _ h => h⟩; exact ⟨hf, fun _ h => h⟩) ?_
  refine cj_seq (cj_region ?_)
  refine oj_box rfl rfl rfl (fun b2 => ?_)
  refine oj_step (y_assign rfl) rfl rfl rfl ?_
  refine oj_nil ?_
  refine ej_th (cj_seq (cj_region ?_))
  refine oj_step (y_loadN Tryd.isAgg110 Tryd.sizeOf110 rfl) rfl rfl rfl ?_
  refine oj_step (y_makeFunc rfl rfl) rfl rfl rfl ?_
  refine oj_alloc Tryd.zeroValue145 rfl rfl (fun b5 => ?_)
  refine oj_store rfl rfl rfl rfl Tryd.sizeOf145 rfl ?_
  refine oj_nil ?_
  refine ej_th (cj_seq (cj_region ?_))
  refine oj_alloc Tryd.zeroValue23 rfl rfl (fun b6 => ?_)
  refine oj_nil ?_
  refine ej_th (cj_seq (cj_seq ?_))
  refine cj_ownNil 3 1 enInt ?_
  refine cj_region ?_
  refine oj_step (y_loadN Tryd.isAgg110 Tryd.sizeOf110 rfl) rfl rfl rfl ?_
  refine oj_step (y_move rfl) rfl rfl rfl ?_
  refine oj_call (X := Nat × Nat) (fun x => .func (.func 97) #[] #[.pointer (some ⟨x.1, 0, none⟩), .pointer (some ⟨x.2, 0, none⟩)]) (fun _ => []) (fun x => [ownB x.2 (cellsB 3 [.int .i64 kind]), ownB x.1 (cellsB 110 [.slice As sales.length cs, .slice Af fade.length cf, .int .i64 metal, .int .i64 day, .int .i64 few])]) Tryd.call80 rfl (fun w hp => k_of _ _ _ _ _ _ _ _ _ _ w) rfl (fun ⟨bm, bk⟩ => ?_)
  dsimp only [List.nil_append, List.cons_append]
  refine oj_nil ?_
  refine ej_th (cj_block ?_)
  refine cj_eqO [ow 3 1 enInt none 0 (((ofKind sales kind).take 0).map (craftOf fade day)), ownB b6 (cellsB 23 [.slice none (((ofKind sales kind).take 0).map (craftOf fade day)).length 0]), ownB b5 (cellsB 145 [.func (.func 79) #[.agg #[.slice As sales.length cs, .slice Af fade.length cf, .int .i64 metal, .int .i64 day, .int .i64 few]] #[]]), ownB b2 (cellsB 110 [.slice As sales.length cs, .slice Af fade.length cf, .int .i64 metal, .int .i64 day, .int .i64 few])] rfl ?_
  refine cj_range (k_of1 sales fade metal day few As Af cs cf kind bm bk (fun b => b < w.heap.size)) (Y := Option Addr × Nat) (Z := Empty) (fun _ _ => True) (fun k y => [ow 3 1 enInt y.1 y.2 (((ofKind sales kind).take k).map (craftOf fade day)), ownB b6 (cellsB 23 [.slice y.1 (((ofKind sales kind).take k).map (craftOf fade day)).length y.2]), ownB b5 (cellsB 145 [.func (.func 79) #[.agg #[.slice As sales.length cs, .slice Af fade.length cf, .int .i64 metal, .int .i64 day, .int .i64 few]] #[]])]) Empty.elim Empty.elim (none, 0) trivial rfl Tryd.call97 (fun _ => rfl) rfl ?_ ?_ ?_
  · rintro l Db r0 r1 k s ⟨A, c⟩ hx -
    have hso := hys k s hx
    have hkk : k < (ofKind sales kind).length := (List.getElem?_eq_some_iff.1 hx).1
    have hml : (((ofKind sales kind).take k).map (craftOf fade day)).length = k := by simp; omega
    refine cj_region ?_
    refine oj_alloc Tryd.zeroValue56 rfl rfl (fun b7 => ?_)
    refine oj_store rfl rfl rfl rfl Tryd.sizeOf56 rfl ?_
    refine oj_nil ?_
    refine ej_beg (cj_block ?_)
    refine cj_plan 7 (by kernel_rfl) (by kernel_rfl) ?_
    refine pl_y 0 rfl (y_load1 Tryd.isAgg23 rfl rfl) rfl rfl rfl rfl (by kernel_rfl) ?_
    refine pl_y 1 rfl (y_load1 Tryd.isAgg145 rfl rfl) rfl rfl rfl rfl (by kernel_rfl) ?_
    refine pl_y 2 rfl (y_loadN Tryd.isAgg56 Tryd.sizeOf56 rfl) rfl rfl rfl rfl (by kernel_rfl) ?_
    refine pl_y 3 rfl (y_callV Tryd.call79 rfl rfl (fun w hp => k_craft s fade metal day few As Af sales.length cs cf w hp.rd hso hfa hda)) rfl rfl rfl rfl (by kernel_rfl) ?_
    refine pl_w1 4 (by kernel_rfl) rfl rfl (pl_fire rfl rfl rfl (by kernel_rfl) ?_)
    refine oj_buildSlice [.int .i64 0] Tryd.underlying23 Tryd.sizeOf3 Tryd.zeroValue3 rfl rfl (by kernel_rfl) rfl rfl (fun b18 => ?_)
    refine oj_nil ?_
    refine ej_pl (lt_w (by kernel_rfl) (lt_y (y_loadN Tryd.isAgg56 Tryd.sizeOf56 rfl) rfl (lt_y (y_load1 Tryd.isAgg145 rfl rfl) rfl (lt_y (y_load1 Tryd.isAgg23 rfl rfl) rfl (lt_nil))))) ?_
    refine pl_w1 5 (by kernel_rfl) rfl rfl (pl_fire rfl rfl rfl (by kernel_rfl) ?_)
    refine oj_append  el23 (fun _ => rfl) enInt_one rfl rfl rfl (reads_lit [craftOf fade day s] (fun _ => rfl) rfl) (by simp [maxLen]; omega) (by simp; omega) rfl (fun A19 c19 => ?_)
    refine oj_nil ?_
    refine ej_pl (lt_w (by kernel_rfl) (lt_y (y_loadN Tryd.isAgg56 Tryd.sizeOf56 rfl) rfl (lt_y (y_load1 Tryd.isAgg145 rfl rfl) rfl (lt_w (by kernel_rfl) (lt_nil))))) ?_
    refine pl_w1 6 (by kernel_rfl) rfl rfl (pl_fire rfl rfl rfl (by kernel_rfl) ?_)
    refine oj_store rfl rfl rfl rfl Tryd.sizeOf23 rfl ?_
    refine oj_nil ?_
    refine ej_pl (lt_w (by kernel_rfl) (lt_w (by kernel_rfl) (lt_w (by kernel_rfl) (lt_w (by kernel_rfl) (lt_nil))))) ?_
    refine pl_end (by kernel_rfl) ?_
    refine ej_blk ?_
    have he : ((ofKind sales kind).take k).map (craftOf fade day) ++ [craftOf fade day s] = ((ofKind sales kind).take (k + 1)).map (craftOf fade day) := by rw [List.take_add_one, hx]; simp
    rw [he]
    exact ej_rd (A19, c19) trivial
  · rintro Db ⟨A, c⟩ -
    rw [List.take_length]
    have hrl : (rawCrafts sales fade day kind).length = (ofKind sales kind).length := List.length_map ..
    have hrb : ∀ x ∈ rawCrafts sales fade day kind, 0 ≤ x ∧ x ≤ 1073741824 := fun x hx => by
      obtain ⟨s, h1, rfl⟩ := List.mem_map.1 hx
      exact craftOf_bd (hsa s (List.mem_filter.1 h1).1) hfa
    change EJ _ _ _ _ [ownB Db (.deferred (some [])), ow 3 1 enInt A c (rawCrafts sales fade day kind), ownB b6 (cellsB 23 [.slice A (rawCrafts sales fade day kind).length c]), _] _
    refine ej_blk (ej_th (cj_seq (cj_region ?_)))
    refine oj_step (y_load1 Tryd.isAgg23 rfl rfl) rfl rfl rfl ?_
    refine oj_mutOw (us := rawCrafts sales fade day kind) (sortI (rawCrafts sales fade day kind)) Tryd.call81 rfl (fun w hp ho => k_sort _ _ _ w hrb (by rw [hrl]; omega) ho) rfl ?_
    refine oj_nil ?_
    refine ej_th (cj_seq ?_)
    refine cj_regionG (gj_step (y_load1 Tryd.isAgg23 rfl rfl) rfl rfl rfl (gj_step (y_assign rfl) rfl rfl rfl (gj_nil ?_)))
    refine ej_th (cj_ret ?_)
    refine ej_retM1 rfl Tryd.results55 rfl (fun w' hp => ⟨A, c, ?_, hp.below, ?_⟩)
    · rw [craftsOf_eq, sortI_len]
    · rw [craftsOf_eq]; exact hp.res (fun _ => rfl) (by rw [sortI_len, hrl]; unfold maxLen; omega)
  · intro Db z; exact z.elim

end Go.Proofs.YtafmgkiddhappaaDoor
