/- Texts of ours, joined: 5 of them. Conditions: none. -/
import Derived.Test.YtomidcehahdmbaaZh
import Derived.Test.YtomidcehahdmbaaProg
import Derived.Laws.StructEq
namespace Go.Proofs.Ytomidcehahdmbaa
open Go Go.Sx Go.RowKit Vm
section
variable {C : Cx} {Q : Exit → Act → World → Prop} {L : Regs} {O S : List Fact} {ty : TypeId} {pos : String} {aft : Array Edge} {dst : Option Tmp} {gu : Option (Nat × Bool)} {x y : Operand}
theorem y_minR {ts : Array TypeId} {k : IntKind} {m n : Int} (hx : val L x = some (.int k m)) (hy : val L y = some (.int k n)) (h : n ≤ m) : Yi C ⟨dst, .call ⟨.builtin .min, #[x, y], ts⟩, ty, pos, aft, gu⟩ L O S (.int k n) := by
  have h1 := y_min (C := C) (O := O) (S := S) (dst := dst) (ty := ty) (pos := pos) (aft := aft) (gu := gu) (ts := ts) hx hy
  rw [Int.min_eq_right h] at h1
  exact h1
end
theorem meet_V {x q : Nat} (hx : x < 64) : (((x &&& q : Nat) : Int) != 0) = meetN x q := by
  rw [Bool.eq_iff_iff]
  unfold meetN
  rw [List.any_eq_true]
  constructor
  · intro h
    have h0 : x &&& q ≠ 0 := by
      intro e
      rw [e] at h
      exact absurd h (by decide)
    obtain ⟨i, hi⟩ := Nat.exists_testBit_of_ne_zero h0
    rw [Nat.testBit_and, Bool.and_eq_true] at hi
    refine ⟨i, List.mem_range.2 ?_, by rw [hi.1, hi.2]; rfl⟩
    refine Nat.lt_of_not_le fun h8 => ?_
    have := Nat.testBit_lt_two_pow (show x < 2 ^ i from Nat.lt_of_lt_of_le hx (Nat.le_trans (by decide : 64 ≤ 2 ^ 8) (Nat.pow_le_pow_right (by decide) h8)))
    rw [hi.1] at this; cases this
  · rintro ⟨i, _, hi⟩
    rw [← Nat.testBit_and] at hi
    have h0 : x &&& q ≠ 0 := by
      intro e
      rw [e, Nat.zero_testBit] at hi; cases hi
    simpa using h0
/-- None of the sets holds another one. -/
def ApartL (l : List Nat) : Prop := ∀ (i k : Nat) a b, i ≠ k → l[i]? = some a → l[k]? = some b → hasN b a = false
theorem apart_min {l : List Nat} (hl : ∀ x ∈ l, x < 64) : ApartL (minL l) := fun i k a b hik ha hb => by
  cases h : hasN b a with
  | false => rfl
  | true =>
    have hne : a ≠ b := by
      intro e
      subst e
      have hi := (List.getElem?_eq_some_iff.1 ha).1
      exact hik ((List.getElem?_inj hi (minL_nodup l)).1 (ha.trans hb.symm))
    exact absurd (hasN_iff.1 h) (minL_apart hl (List.mem_of_getElem? ha) (List.mem_of_getElem? hb) hne)
theorem any_take {α : Type} (q : α → Bool) {l : List α} {k : Nat} {x : α} (h : l[k]? = some x) : (l.take (k + 1)).any q = ((l.take k).any q || q x) := by
  rw [List.take_add_one, h, Option.toList_some, List.any_append]; simp
theorem all_take {α : Type} (q : α → Bool) {l : List α} {k : Nat} {x : α} (h : l[k]? = some x) : (l.take (k + 1)).all q = ((l.take k).all q && q x) := by
  rw [List.take_add_one, h, Option.toList_some, List.all_append]; simp
end Go.Proofs.Ytomidcehahdmbaa
namespace Go.Proofs.Ytomidcehahdmbaa
open Go.Sx Go.RowKit
set_option maxRecDepth 20000

end Go.Proofs.Ytomidcehahdmbaa
namespace Go.Proofs.Ytomidcehahdmbaa
open Go.Sx Go.RowKit Vm
set_option maxRecDepth 20000
theorem k_inS (a b : Nat) (w : World) (ha : a ≤ 9223372036854775807) (hb : b ≤ 9223372036854775807) : Calls Try.prog 25 #[.int .i64 (a : Nat), .int .i64 (b : Nat)] w (fun e w' => e = .returned (.bool (hasN b a)) ∧ Grow w w') := by
  refine enter_pure (args := [.int .i64 (a : Nat), .int .i64 (b : Nat)]) [] Try.func25 rfl (by rw [Try.ntmps25]; simp) (by simp) ?_
  refine cj_seq ?_
  refine cj_regionG (gj_step (y_assign rfl) rfl rfl rfl (gj_nil ?_))
  refine ej_th (cj_seq ?_)
  refine cj_regionG (gj_step (y_move rfl) rfl rfl rfl (gj_step (y_move rfl) rfl rfl rfl (gj_step (y_andN rfl rfl (by omega) (by omega)) rfl rfl rfl (gj_step (y_move rfl) rfl rfl rfl (gj_step (y_eql rfl rfl) rfl rfl rfl (gj_step (y_assign rfl) rfl rfl rfl (gj_nil ?_)))))))
  refine ej_th (cj_ret ?_)
  refine ej_ret1 rfl Try.results25 rfl (fun w' hp => ⟨?_, hp.below⟩)
  congr 2
  unfold hasN
  rw [Bool.eq_iff_iff, decide_eq_true_iff, beq_iff_eq]
  omega

theorem k_least2 (l : List Nat) (A : Option Addr) (c : Nat) (w : World) (hl : Rd w 1 enInt A (intsL l)) (hap : ApartL l) (h64 : ∀ x ∈ l, x < 64) : Calls Try.prog 28 #[.slice A (intsL l).length c] w (fun e w' => e = .returned (.bool true) ∧ Grow w w') := by
  have hel := enC l
  have hll := hl.len
  rw [hel] at hll
  refine enter_pure (args := [.slice A (intsL l).length c]) [sl (fun b => b < w.heap.size) 1 enInt A (intsL l)] Try.func28 rfl (by rw [Try.ntmps28]; simp) (fun g hg => by simp at hg; subst hg; exact ⟨hl, fun _ h => h⟩) ?_
  refine cj_seq ?_
  refine cj_regionG (gj_step (y_assign rfl) rfl rfl rfl (gj_nil ?_))
  refine ej_th (cj_seq (cj_seq ?_))
  refine cj_regionG (gj_step (y_assign rfl) rfl rfl rfl (gj_nil ?_))
  refine ej_th (cj_block ?_)
  refine cj_lpic (X := Nat) [(0, _)] (fun i => i ≤ l.length) (fun i => [(3, .int .i64 (i : Nat))]) (fun i => l.length - i) 0 (Nat.zero_le _) ⟨rfl, rfl, trivial⟩ ?_
  rintro i hi
  dsimp only [List.cons_append, List.nil_append]
  refine cj_seq (cj_seq ?_)
  refine cj_regionG (gj_step (y_move rfl) rfl rfl rfl (gj_step (y_move rfl) rfl rfl rfl (gj_step (y_lenA Try.underlying24 rfl) rfl rfl rfl (gj_step (y_lss rfl rfl) rfl rfl rfl (gj_nil ?_)))))
  refine ej_th ?_
  refine cj_cond rfl (fun h8 => ?_) (fun h8 => ?_)
  · have h8b := h8
    try simp only [sxb] at h8
    obtain ⟨x, hx⟩ : ∃ x, l[i]? = some x := ⟨_, List.getElem?_eq_getElem (by omega)⟩
    have hx64 := h64 x (List.mem_of_getElem? hx)
    refine cj_skip (ej_th (cj_seq (cj_block (cj_seq ?_))))
    refine cj_regionG (gj_step (y_assign rfl) rfl rfl rfl (gj_nil ?_))
    refine ej_th (cj_block ?_)
    refine cj_lpic (X := Nat) [(3, _), (0, _)] (fun j => j ≤ l.length) (fun j => [(4, .int .i64 (j : Nat))]) (fun j => l.length - j) 0 (Nat.zero_le _) ⟨rfl, rfl, rfl, trivial⟩ ?_
    rintro j hj
    dsimp only [List.cons_append, List.nil_append]
    refine cj_seq (cj_seq ?_)
    refine cj_regionG (gj_step (y_move rfl) rfl rfl rfl (gj_step (y_move rfl) rfl rfl rfl (gj_step (y_lenA Try.underlying24 rfl) rfl rfl rfl (gj_step (y_lss rfl rfl) rfl rfl rfl (gj_nil ?_)))))
    refine ej_th ?_
    refine cj_cond rfl (fun h14 => ?_) (fun h14 => ?_)
    · have h14b := h14
      try simp only [sxb] at h14
      obtain ⟨y, hy⟩ : ∃ y, l[j]? = some y := ⟨_, List.getElem?_eq_getElem (by omega)⟩
      have hy64 := h64 y (List.mem_of_getElem? hy)
      refine cj_skip (ej_th (cj_seq (cj_block (cj_seq ?_))))
      refine cj_draw (by kernel_rfl) (by kernel_rfl) ?_
      refine gj_step (y_move rfl) rfl rfl rfl (gj_step (y_move rfl) rfl rfl rfl (gj_step (y_neq rfl rfl) rfl rfl rfl (gj_step (y_move rfl) rfl rfl rfl (?_))))
      refine gj_g 9 20 29 rfl rfl rfl rfl (fun hg20 => gj_yes rfl rfl rfl (y_move rfl) rfl rfl (gj_yes rfl rfl rfl (y_move rfl) rfl rfl (gj_yes rfl rfl rfl (y_ixR (reads_sl) Try.underlying24 Try.sizeOf3 rfl rfl (⟨by omega, by omega⟩)) rfl rfl (gj_yes rfl rfl rfl (y_ld0 (reads_sl) Try.isAgg3 rfl (get_ints hx) rfl) rfl rfl (gj_yes rfl rfl rfl (y_move rfl) rfl rfl (gj_yes rfl rfl rfl (y_move rfl) rfl rfl (gj_yes rfl rfl rfl (y_ixR (reads_sl) Try.underlying24 Try.sizeOf3 rfl rfl (⟨by omega, by omega⟩)) rfl rfl (gj_yes rfl rfl rfl (y_ld0 (reads_sl) Try.isAgg3 rfl (get_ints hy) rfl) rfl rfl (gj_yes rfl rfl rfl (y_call Try.call25 rfl (fun w hp => k_inS x y w (by omega) (by omega))) rfl rfl (gj_nil rfl)))))))))) ?_
      refine gj_step (y_and rfl rfl rfl) rfl rfl rfl (?_)
      refine gj_nil ?_
      refine ej_th ?_
      refine cj_cond rfl (fun h30 => ?_) (fun h30 => ?_)
      · rw [Bool.and_eq_true] at h30
        have hij : i ≠ j := by have h9 := h30.1; simp at h9; omega
        have h9 := hap i j x y hij hx hy
        rw [h9] at h30; exact absurd h30.2 (by simp)
      · have h30b := h30
        try simp only [sxb] at h30
        refine cj_skip (ej_blk (ej_th ?_))
        refine cj_regionG (gj_step (y_move rfl) rfl rfl rfl (gj_step (y_add rfl rfl (by omega)) rfl rfl rfl (gj_step (y_assign rfl) rfl rfl rfl (gj_nil ?_))))
        exact ej_nx (j + 1) (by omega) (by omega) ⟨rfl, rfl, rfl, trivial⟩
    · have h14b := h14
      try simp only [sxb] at h14
      refine cj_exit (ej_then_exit (ej_then_exit (ej_blk_hit (ej_blk (ej_th ?_)))))
      refine cj_regionG (gj_step (y_move rfl) rfl rfl rfl (gj_step (y_add rfl rfl (by omega)) rfl rfl rfl (gj_step (y_assign rfl) rfl rfl rfl (gj_nil ?_))))
      exact ej_nx (i + 1) (by omega) (by omega) ⟨rfl, rfl, trivial⟩
  · have h8b := h8
    try simp only [sxb] at h8
    refine cj_exit (ej_then_exit (ej_then_exit (ej_blk_hit (ej_th (cj_seq ?_)))))
    refine cj_regionG (gj_step (y_assign rfl) rfl rfl rfl (gj_nil ?_))
    refine ej_th (cj_ret ?_)
    exact ej_ret1 rfl Try.results28 rfl (fun w' hp => ⟨rfl, hp.below⟩)

end Go.Proofs.Ytomidcehahdmbaa
namespace Go.Proofs.Ytomidcehahdmbaa
open Go.Sx Go.RowKit
set_option maxRecDepth 20000

end Go.Proofs.Ytomidcehahdmbaa
namespace Go.Proofs.Ytomidcehahdmbaa
open Go.Sx Go.RowKit Vm
set_option maxRecDepth 20000
set_option maxHeartbeats 3200000 in
theorem k_VaultDual (s : StrV) (n g : Int) (w : World) (hs : StrRd w s) : Calls Try.prog 6 #[.agg #[.slice s.Ar s.rooms.length s.cr, .slice s.Ag s.gates.length s.cg, .slice s.As s.staff.length s.cs], .int .i64 n, .int .i64 g] w (fun e w' => e = .returned (.bool true) ∧ Grow w w') := by
  refine enter_pure (args := [.agg #[.slice s.Ar s.rooms.length s.cr, .slice s.Ag s.gates.length s.cg, .slice s.As s.staff.length s.cs], .int .i64 n, .int .i64 g]) [sl (fun b => b < w.heap.size) 3 encRo s.Ar s.rooms, sl (fun b => b < w.heap.size) 4 encGa s.Ag s.gates, sl (fun b => b < w.heap.size) 1 enInt s.As s.staff] Try.func6 rfl (by rw [Try.ntmps6]; simp) (fun g hg => by simp at hg; rcases hg with rfl | rfl | rfl; exact ⟨hs.rooms, fun _ h => h⟩; exact ⟨hs.gates, fun _ h => h⟩; exact ⟨hs.staff, fun _ h => h⟩) ?_
  refine cj_seq (cj_region ?_)
  refine oj_box rfl rfl rfl (fun b3 => ?_)
  refine oj_step (y_assign rfl) rfl rfl rfl ?_
  refine oj_nil ?_
  refine ej_th (cj_seq (cj_region ?_))
  refine oj_step (y_loadN Try.isAgg26 Try.sizeOf26 rfl) rfl rfl rfl ?_
  refine oj_step (y_move rfl) rfl rfl rfl ?_
  refine oj_callS (fun A c => .tuple #[.slice A (intsL (grpsV s n)).length c, .int .i64 (roomE s n)]) 1 enInt (intsL (grpsV s n)) Try.call20 rfl (fun w hp => k_Groups s n w (hs.mono hp.below)) rfl (fun A24 c24 fp24 hfp24 => ?_)
  refine oj_step (y_move rfl) rfl rfl rfl ?_
  refine oj_step (y_extract rfl rfl) rfl rfl rfl ?_
  refine oj_step (y_extract rfl rfl) rfl rfl rfl ?_
  refine oj_step (y_assign rfl) rfl rfl rfl ?_
  refine oj_step (y_assign rfl) rfl rfl rfl ?_
  refine oj_nil ?_
  refine ej_th (cj_seq (cj_region ?_))
  refine oj_step (y_loadN Try.isAgg26 Try.sizeOf26 rfl) rfl rfl rfl ?_
  refine oj_step (y_move rfl) rfl rfl rfl ?_
  refine oj_callS (fun A c => .tuple #[.slice A (intsL (grdsV s n)).length c, .int .i64 (roomE s n)]) 1 enInt (intsL (grdsV s n)) Try.call23 rfl (fun w hp => k_Guards s n w (hs.mono hp.below)) rfl (fun A30 c30 fp30 hfp30 => ?_)
  refine oj_step (y_move rfl) rfl rfl rfl ?_
  refine oj_step (y_extract rfl rfl) rfl rfl rfl ?_
  refine oj_step (y_extract rfl rfl) rfl rfl rfl ?_
  refine oj_step (y_assign rfl) rfl rfl rfl ?_
  refine oj_step (y_assign rfl) rfl rfl rfl ?_
  refine oj_nil ?_
  refine ej_th (cj_seq (cj_seq ?_))
  refine cj_regionG (gj_step (y_move rfl) rfl rfl rfl (gj_step (y_neq rfl rfl) rfl rfl rfl (gj_step (y_move rfl) rfl rfl rfl (gj_g 2 35 37 rfl rfl rfl rfl (fun hg35 => gj_yes rfl rfl rfl (y_move rfl) rfl rfl (gj_yes rfl rfl rfl (y_neq rfl rfl) rfl rfl (gj_nil rfl))) (gj_step (y_or rfl rfl rfl) rfl rfl rfl (gj_nil ?_))))))
  refine ej_th ?_
  refine cj_cond rfl (fun h38 => ?_) (fun h38 => ?_)
  · have h38b := h38
    try simp only [sxb] at h38
    have hne : roomE s n ≠ 0 := by intro e; rw [e] at h38b; exact absurd h38b (by decide)
    have hV : grpsV s n = [] := by rw [grpsV, if_neg hne]
    have hW : grdsV s n = [] := by rw [grdsV, if_neg hne]
    refine cj_seq ?_
    refine cj_regionG ?_
    refine gj_step (y_move rfl) rfl rfl rfl (gj_step (y_move rfl) rfl rfl rfl (gj_step (y_eql rfl rfl) rfl rfl rfl (gj_step (y_move rfl) rfl rfl rfl (?_))))
    refine gj_g 3 42 45 rfl rfl rfl rfl (fun hg42 => gj_yes rfl rfl rfl (y_move rfl) rfl rfl (gj_yes rfl rfl rfl (y_lenA Try.underlying24 rfl) rfl rfl (gj_yes rfl rfl rfl (y_eql rfl rfl) rfl rfl (gj_nil rfl)))) ?_
    refine gj_step (y_and rfl rfl rfl) rfl rfl rfl (gj_step (y_move rfl) rfl rfl rfl (?_))
    refine gj_g 3 47 50 rfl rfl rfl rfl (fun hg47 => gj_yes rfl rfl rfl (y_move rfl) rfl rfl (gj_yes rfl rfl rfl (y_lenA Try.underlying24 rfl) rfl rfl (gj_yes rfl rfl rfl (y_eql rfl rfl) rfl rfl (gj_nil rfl)))) ?_
    refine gj_step (y_and rfl rfl rfl) rfl rfl rfl (gj_step (y_move rfl) rfl rfl rfl (?_))
    refine gj_g 1 52 53 rfl rfl rfl rfl (fun hg52 => gj_yes rfl rfl rfl (y_call Try.call19 rfl (fun w hp => k_works w)) rfl rfl (gj_nil rfl)) ?_
    refine gj_step (y_and rfl rfl rfl) rfl rfl rfl (gj_step (y_assign rfl) rfl rfl rfl (?_))
    refine gj_nil ?_
    refine ej_th (cj_ret (ej_then_ret ?_))
    exact ej_ret1 rfl Try.results6 rfl (fun w' hp => ⟨by simp [hV, hW], hp.below⟩)
  · have h38b := h38
    try simp only [sxb] at h38
    have h0 : roomE s n = 0 := by
      rw [Bool.or_eq_false_iff] at h38b
      simpa using h38b.1
    obtain ⟨hb, hn0, hnr, hn5⟩ := room_ok h0
    obtain ⟨m, hm⟩ : ∃ m : Nat, n = m := ⟨n.toNat, by omega⟩
    subst hm
    rw [Int.toNat_natCast] at hn5
    have hV : grpsV s m = groupsV s.s m := by rw [grpsV, if_pos h0]; rfl
    have hW : grdsV s m = guardsV s.s m := by rw [grdsV, if_pos h0]; rfl
    rw [hV, hW]
    have hok := StrOk.of hb
    have hnr := hok.nr
    have hng := hok.ng
    have hns := hok.ns
    have hgl := minL_len (reachL s.s m)
    have hdl := minL_len (guardL s.s m)
    have hgl2 : (groupsV s.s m).length ≤ 64 := hgl
    have hdl2 : (guardsV s.s m).length ≤ 64 := hdl
    have heg := enC (groupsV s.s m)
    have hed := enC (guardsV s.s m)
    have hst := staff_le hb
    have hst2 : 2 ^ s.staff.length ≤ 64 := hst
    have hsp := Nat.two_pow_pos s.staff.length
    have hst0 : 2 ^ s.s.staff.length = allN s.s + 1 := by unfold allN; have := Nat.two_pow_pos s.s.staff.length; omega
    have hal : allN s.s < 64 := by omega
    refine cj_skip (ej_th (cj_seq ?_))
    refine cj_regionG ?_
    refine gj_step (y_loadN Try.isAgg26 Try.sizeOf26 rfl) rfl rfl rfl (gj_step (y_move rfl) rfl rfl rfl (?_))
    refine gj_step (y_call Try.call13 rfl (fun w hp => k_Enter s g w (hs.mono hp.below))) rfl rfl rfl ?_
    refine gj_step (y_move rfl) rfl rfl rfl (gj_step (y_extract rfl rfl) rfl rfl rfl (gj_step (y_extract rfl rfl) rfl rfl rfl (gj_step (y_assign rfl) rfl rfl rfl (gj_step (y_assign rfl) rfl rfl rfl (?_)))))
    refine gj_nil ?_
    refine ej_th (cj_seq (cj_seq ?_))
    refine cj_regionG (gj_step (y_move rfl) rfl rfl rfl (gj_step (y_neq rfl rfl) rfl rfl rfl (gj_nil ?_)))
    refine ej_th ?_
    refine cj_cond rfl (fun h62 => ?_) (fun h62 => ?_)
    · have h62b := h62
      try simp only [sxb] at h62
      have h41 : askE s g = 41 := by
        unfold askE at h62 ⊢
        rw [if_pos hb] at h62 ⊢
        split
        · rename_i h9
          rw [if_pos h9] at h62; exact absurd rfl h62
        · rfl
      refine cj_seq ?_
      refine cj_regionG ?_
      refine gj_step (y_move rfl) rfl rfl rfl (gj_step (y_eql rfl rfl) rfl rfl rfl (gj_step (y_move rfl) rfl rfl rfl (?_)))
      refine gj_g 1 65 66 rfl rfl rfl rfl (fun hg65 => gj_yes rfl rfl rfl (y_call Try.call19 rfl (fun w hp => k_works w)) rfl rfl (gj_nil rfl)) ?_
      refine gj_step (y_and rfl rfl rfl) rfl rfl rfl (gj_step (y_assign rfl) rfl rfl rfl (?_))
      refine gj_nil ?_
      refine ej_th (cj_ret (ej_then_ret ?_))
      exact ej_ret1 rfl Try.results6 rfl (fun w' hp => ⟨by simp [h41], hp.below⟩)
    · have h62b := h62
      try simp only [sxb] at h62
      have h1 : askE s g = 0 := by simpa using h62
      obtain ⟨_, _, _, hg0, hgl0, hg64⟩ := ask_0 h1
      obtain ⟨q, hq⟩ : ∃ q : Nat, g = q := ⟨g.toNat, by omega⟩
      subst hq
      rw [Int.toNat_natCast] at hgl0 hg64
      have hEV : EntV s q = (reachV s.s q : Nat) := by rw [EntV, if_pos h1]; rfl
      rw [hEV, h1]
      refine cj_skip (ej_th (cj_seq (cj_seq ?_)))
      refine cj_regionG ?_
      refine gj_step (y_move rfl) rfl rfl rfl (?_)
      refine gj_step (y_call Try.call27 rfl (fun w hp => k_From _ _ _ w)) rfl rfl rfl ?_
      refine gj_step (y_not rfl) rfl rfl rfl (gj_step (y_move rfl) rfl rfl rfl (?_))
      refine gj_g 3 71 74 rfl rfl rfl rfl (fun hg71 => gj_yes rfl rfl rfl (y_move rfl) rfl rfl (gj_yes rfl rfl rfl (y_call Try.call28 rfl (fun w hp => k_least2 (groupsV s.s m) A24 c24 w hp.rd (apart_min (sets_lt hb)) (fun x hx => minL_lt hx))) rfl rfl (gj_yes rfl rfl rfl (y_not rfl) rfl rfl (gj_nil rfl)))) ?_
      refine gj_step (y_or rfl rfl rfl) rfl rfl rfl (gj_step (y_move rfl) rfl rfl rfl (?_))
      refine gj_g 3 76 79 rfl rfl rfl rfl (fun hg76 => gj_yes rfl rfl rfl (y_move rfl) rfl rfl (gj_yes rfl rfl rfl (y_call Try.call28 rfl (fun w hp => k_least2 (guardsV s.s m) A30 c30 w hp.rd (apart_min (sets_lt hb)) (fun x hx => minL_lt hx))) rfl rfl (gj_yes rfl rfl rfl (y_not rfl) rfl rfl (gj_nil rfl)))) ?_
      refine gj_step (y_or rfl rfl rfl) rfl rfl rfl (?_)
      refine gj_nil ?_
      refine ej_th ?_
      refine cj_cond rfl (fun h80 => ?_) (fun h80 => ?_)
      · rw [btw_t.2 (show (0 : Int) ≤ (m : Nat) ∧ ((m : Nat) : Int) ≤ 5 by omega)] at h80
        exact absurd h80 (by decide)
      · have h80b := h80
        try simp only [sxb] at h80
        refine cj_skip (ej_th (cj_seq ?_))
        refine cj_regionG (gj_step (y_assign rfl) rfl rfl rfl (gj_step (y_assign rfl) rfl rfl rfl (gj_nil ?_)))
        refine ej_th (cj_seq (cj_seq ?_))
        refine cj_regionG (gj_step (y_assign rfl) rfl rfl rfl (gj_nil ?_))
        refine ej_th (cj_block ?_)
        refine cj_lpic (X := Nat × Bool) [(1, _), (2, _), (3, _), (6, _), (7, _), (9, _), (11, _), (14, _)] (fun ⟨i, b⟩ => i ≤ (groupsV s.s m).length ∧ b = ((groupsV s.s m).take i).any fun x => hasN q x) (fun ⟨i, b⟩ => [(13, .bool b), (15, .int .i64 (i : Nat))]) (fun ⟨i, b⟩ => (groupsV s.s m).length - i) (0, false) (⟨Nat.zero_le _, rfl⟩) ⟨rfl, rfl, rfl, rfl, rfl, rfl, rfl, rfl, rfl, rfl, trivial⟩ ?_
        rintro ⟨i, b⟩ ⟨hi, hbs⟩
        dsimp only [List.cons_append, List.nil_append]
        refine cj_seq (cj_seq ?_)
        refine cj_regionG (gj_step (y_move rfl) rfl rfl rfl (gj_step (y_move rfl) rfl rfl rfl (gj_step (y_lenA Try.underlying24 rfl) rfl rfl rfl (gj_step (y_lss rfl rfl) rfl rfl rfl (gj_nil ?_)))))
        refine ej_th ?_
        refine cj_cond rfl (fun h84 => ?_) (fun h84 => ?_)
        · have h84b := h84
          try simp only [sxb] at h84
          obtain ⟨x, hx⟩ : ∃ x, (groupsV s.s m)[i]? = some x := ⟨_, List.getElem?_eq_getElem (by omega)⟩
          have hx64 : x < 64 := minL_lt (List.mem_of_getElem? hx)
          refine cj_skip (ej_th (cj_seq (cj_block ?_)))
          refine cj_regionG ?_
          refine gj_step (y_move rfl) rfl rfl rfl (gj_step (y_move rfl) rfl rfl rfl (?_))
          refine gj_g 6 88 94 rfl rfl rfl rfl (fun hg88 => gj_yes rfl rfl rfl (y_move rfl) rfl rfl (gj_yes rfl rfl rfl (y_move rfl) rfl rfl (gj_yes rfl rfl rfl (y_ixR (reads_sl) Try.underlying24 Try.sizeOf3 rfl rfl (⟨by omega, by omega⟩)) rfl rfl (gj_yes rfl rfl rfl (y_ld0 (reads_sl) Try.isAgg3 rfl (get_ints hx) rfl) rfl rfl (gj_yes rfl rfl rfl (y_move rfl) rfl rfl (gj_yes rfl rfl rfl (y_call Try.call25 rfl (fun w hp => k_inS x q w (by omega) (by omega))) rfl rfl (gj_nil rfl))))))) ?_
          refine gj_step (y_or rfl rfl rfl) rfl rfl rfl (gj_step (y_assign rfl) rfl rfl rfl (?_))
          refine gj_nil ?_
          refine ej_blk (ej_th ?_)
          refine cj_regionG (gj_step (y_move rfl) rfl rfl rfl (gj_step (y_add rfl rfl (by omega)) rfl rfl rfl (gj_step (y_assign rfl) rfl rfl rfl (gj_nil ?_))))
          exact ej_nx (i + 1, b || hasN q x) (by first | omega | (simp only; omega)) ⟨by first | omega | (simp only; omega), by rw [any_take (fun x => hasN q x) hx, ← hbs]⟩ ⟨rfl, rfl, rfl, rfl, rfl, rfl, rfl, rfl, rfl, rfl, trivial⟩
        · have h84b := h84
          try simp only [sxb] at h84
          have hsm : b = (reachV s.s q).testBit m := by rw [hbs, List.take_of_length_le (by omega), reach_some hb hgl0]
          refine cj_exit (ej_then_exit (ej_then_exit (ej_blk_hit (ej_th (cj_seq ?_)))))
          refine cj_regionG (gj_step (y_fa fa26_2 rfl) rfl rfl rfl (gj_step (y_load1 Try.isAgg24 rfl rfl) rfl rfl rfl (gj_step (y_lenA Try.underlying24 rfl) rfl rfl rfl (gj_step (y_minR rfl rfl (by omega)) rfl rfl rfl (gj_step (y_shl1 rfl rfl (by omega)) rfl rfl rfl (gj_step (y_sub rfl rfl (by omega)) rfl rfl rfl (gj_step (y_assign rfl) rfl rfl rfl (gj_nil ?_))))))))
          refine ej_th (cj_seq (cj_seq ?_))
          rw [show (((2 ^ s.staff.length : Nat) : Int) - 1) = ((allN s.s : Nat) : Int) by unfold allN; show (((2 ^ s.staff.length : Nat) : Int) - 1) = ((2 ^ s.staff.length - 1 : Nat) : Int); omega]
          refine cj_regionG (gj_step (y_assign rfl) rfl rfl rfl (gj_nil ?_))
          refine ej_th (cj_block ?_)
          refine cj_lpic (X := Nat × Bool) [(13, _), (1, _), (2, _), (3, _), (9, _), (11, _), (16, _)] (fun ⟨j, b2⟩ => j ≤ (guardsV s.s m).length ∧ b2 = ((guardsV s.s m).take j).all fun x => meetN x q) (fun ⟨j, b2⟩ => [(14, .bool b2), (17, .int .i64 (j : Nat))]) (fun ⟨j, b2⟩ => (guardsV s.s m).length - j) (0, true) (⟨Nat.zero_le _, rfl⟩) ⟨rfl, rfl, rfl, rfl, rfl, rfl, rfl, rfl, rfl, trivial⟩ ?_
          rintro ⟨j, b2⟩ ⟨hj, hbs2⟩
          dsimp only [List.cons_append, List.nil_append]
          refine cj_seq (cj_seq ?_)
          refine cj_regionG (gj_step (y_move rfl) rfl rfl rfl (gj_step (y_move rfl) rfl rfl rfl (gj_step (y_lenA Try.underlying24 rfl) rfl rfl rfl (gj_step (y_lss rfl rfl) rfl rfl rfl (gj_nil ?_)))))
          refine ej_th ?_
          refine cj_cond rfl (fun h105 => ?_) (fun h105 => ?_)
          · have h105b := h105
            try simp only [sxb] at h105
            obtain ⟨x, hx⟩ : ∃ x, (guardsV s.s m)[j]? = some x := ⟨_, List.getElem?_eq_getElem (by omega)⟩
            have hx64 : x < 64 := minL_lt (List.mem_of_getElem? hx)
            refine cj_skip (ej_th (cj_seq (cj_block (cj_seq ?_))))
            refine cj_regionG (gj_step (y_move rfl) rfl rfl rfl (gj_step (y_move rfl) rfl rfl rfl (gj_g 7 109 116 rfl rfl rfl rfl (fun hg109 => gj_yes rfl rfl rfl (y_move rfl) rfl rfl (gj_yes rfl rfl rfl (y_move rfl) rfl rfl (gj_yes rfl rfl rfl (y_ixR (reads_sl) Try.underlying24 Try.sizeOf3 rfl rfl (⟨by omega, by omega⟩)) rfl rfl (gj_yes rfl rfl rfl (y_ld0 (reads_sl) Try.isAgg3 rfl (get_ints hx) rfl) rfl rfl (gj_yes rfl rfl rfl (y_move rfl) rfl rfl (gj_yes rfl rfl rfl (y_andN rfl rfl (by omega) (by omega)) rfl rfl (gj_yes rfl rfl rfl (y_neq rfl rfl) rfl rfl (gj_nil rfl)))))))) (gj_step (y_and rfl rfl rfl) rfl rfl rfl (gj_step (y_assign rfl) rfl rfl rfl (gj_nil ?_))))))
            refine ej_th (cj_seq (cj_seq ?_))
            refine cj_regionG ?_
            refine gj_step (y_move rfl) rfl rfl rfl (gj_step (y_move rfl) rfl rfl rfl (gj_step (y_ixR (reads_sl) Try.underlying24 Try.sizeOf3 rfl rfl (⟨by omega, by omega⟩)) rfl rfl rfl (gj_step (y_ld0 (reads_sl) Try.isAgg3 rfl (get_ints hx) rfl) rfl rfl rfl (gj_step (y_move rfl) rfl rfl rfl (?_)))))
            refine gj_step (y_call Try.call27 rfl (fun w hp => k_From _ _ _ w)) rfl rfl rfl ?_
            refine gj_step (y_not rfl) rfl rfl rfl (?_)
            refine gj_nil ?_
            refine ej_th ?_
            refine cj_cond rfl (fun h124 => ?_) (fun h124 => ?_)
            · rw [btw_t.2 (show (0 : Int) ≤ (x : Nat) ∧ ((x : Nat) : Int) ≤ (allN s.s : Nat) by have h9 := (guard_without hb (List.mem_of_getElem? hx)).1; rw [hst0] at h9; omega)] at h124
              exact absurd h124 (by decide)
            · have h124b := h124
              try simp only [sxb] at h124
              refine cj_skip (ej_th (cj_seq ?_))
              refine cj_draw (by kernel_rfl) (by kernel_rfl) ?_
              refine gj_step (y_loadN Try.isAgg26 Try.sizeOf26 rfl) rfl rfl rfl (gj_step (y_move rfl) rfl rfl rfl (gj_step (y_move rfl) rfl rfl rfl (gj_step (y_move rfl) rfl rfl rfl (gj_step (y_ixR (reads_sl) Try.underlying24 Try.sizeOf3 rfl rfl (⟨by omega, by omega⟩)) rfl rfl rfl (gj_step (y_ld0 (reads_sl) Try.isAgg3 rfl (get_ints hx) rfl) rfl rfl rfl (gj_step (y_andNotN rfl rfl (by omega) (by omega)) rfl rfl rfl (?_)))))))
              refine gj_step (y_call Try.call13 rfl (fun w hp => k_Enter s ((difN (allN s.s) x : Nat) : Int) w (hs.mono hp.below))) rfl rfl rfl ?_
              refine gj_step (y_move rfl) rfl rfl rfl (gj_step (y_extract rfl rfl) rfl rfl rfl (gj_step (y_extract rfl rfl) rfl rfl rfl (gj_step (y_assign rfl) rfl rfl rfl (gj_step (y_assign rfl) rfl rfl rfl (?_)))))
              refine gj_nil ?_
              refine ej_th (cj_seq ?_)
              have hd1 : askE s ((difN (allN s.s) x : Nat) : Int) = 0 := by
                have h9 := dif_lt (s := s.s) x
                have h10 : difN (allN s.s) x < 2 ^ s.staff.length := h9
                rw [askE, if_pos hb, if_pos (btw_t.2 (by omega))]
              have hd2 : EntV s ((difN (allN s.s) x : Nat) : Int) = (reachV s.s (difN (allN s.s) x) : Nat) := by rw [EntV, if_pos hd1]; rfl
              rw [hd1, hd2]
              refine cj_regionG ?_
              refine gj_step (y_move rfl) rfl rfl rfl (gj_step (y_neq rfl rfl) rfl rfl rfl (gj_step (y_move rfl) rfl rfl rfl (?_)))
              refine gj_g 3 138 141 rfl rfl rfl rfl (fun hg138 => gj_yes rfl rfl rfl (y_move rfl) rfl rfl (gj_yes rfl rfl rfl (y_move rfl) rfl rfl (gj_yes rfl rfl rfl (y_call Try.call29 rfl (fun w hp => k_Bit (reachV s.s (difN (allN s.s) x)) m w (by omega))) rfl rfl (gj_nil rfl)))) ?_
              refine gj_step (y_or rfl rfl rfl) rfl rfl rfl (?_)
              refine gj_nil ?_
              refine ej_th ?_
              refine cj_cond rfl (fun h142 => ?_) (fun h142 => ?_)
              · rw [(guard_without hb (List.mem_of_getElem? hx)).2] at h142
                exact absurd h142 (by decide)
              · have h142b := h142
                try simp only [sxb] at h142
                refine cj_skip (ej_blk (ej_th ?_))
                refine cj_regionG (gj_step (y_move rfl) rfl rfl rfl (gj_step (y_add rfl rfl (by omega)) rfl rfl rfl (gj_step (y_assign rfl) rfl rfl rfl (gj_nil ?_))))
                rw [meet_V hx64]
                exact ej_nx (j + 1, b2 && meetN x q) (by first | omega | (simp only; omega)) ⟨by first | omega | (simp only; omega), by rw [all_take (fun x => meetN x q) hx, ← hbs2]⟩ ⟨rfl, rfl, rfl, rfl, rfl, rfl, rfl, rfl, rfl, trivial⟩
          · have h105b := h105
            try simp only [sxb] at h105
            have hal2 : b2 = (reachV s.s q).testBit m := by rw [hbs2, List.take_of_length_le (by omega), reach_all hb hgl0]
            refine cj_exit (ej_then_exit (ej_then_exit (ej_blk_hit (ej_th (cj_seq ?_)))))
            refine cj_regionG ?_
            refine gj_step (y_move rfl) rfl rfl rfl (gj_step (y_move rfl) rfl rfl rfl (?_))
            refine gj_step (y_call Try.call29 rfl (fun w hp => k_Bit (reachV s.s q) m w (by omega))) rfl rfl rfl ?_
            refine gj_step (y_assign rfl) rfl rfl rfl (?_)
            refine gj_nil ?_
            refine ej_th (cj_seq ?_)
            refine cj_regionG ?_
            refine gj_step (y_move rfl) rfl rfl rfl (gj_step (y_move rfl) rfl rfl rfl (gj_step (y_eqlB Try.underlying4 rfl rfl) rfl rfl rfl (gj_step (y_move rfl) rfl rfl rfl (?_))))
            refine gj_g 3 149 152 rfl rfl rfl rfl (fun hg149 => gj_yes rfl rfl rfl (y_move rfl) rfl rfl (gj_yes rfl rfl rfl (y_move rfl) rfl rfl (gj_yes rfl rfl rfl (y_eqlB Try.underlying4 rfl rfl) rfl rfl (gj_nil rfl)))) ?_
            refine gj_step (y_and rfl rfl rfl) rfl rfl rfl (gj_step (y_move rfl) rfl rfl rfl (?_))
            refine gj_g 1 154 155 rfl rfl rfl rfl (fun hg154 => gj_yes rfl rfl rfl (y_call Try.call19 rfl (fun w hp => k_works w)) rfl rfl (gj_nil rfl)) ?_
            refine gj_step (y_and rfl rfl rfl) rfl rfl rfl (gj_step (y_assign rfl) rfl rfl rfl (?_))
            refine gj_nil ?_
            refine ej_th (cj_ret ?_)
            exact ej_ret1 rfl Try.results6 rfl (fun w' hp => ⟨by simp [hsm, hal2], hp.below⟩)

end Go.Proofs.Ytomidcehahdmbaa
