/- Texts of ours, joined: 8 of them. Conditions: none. -/
import Derived.Test.YtomidcehahdmbaaZh
import Derived.Test.YtomidcehahdmbaaProg
import Derived.Laws.StructEq
namespace Go.Proofs.Ytomidcehahdmbaa
open Go Go.Sx Go.RowKit Vm
section
variable {C : Cx} {Q : Exit → Act → World → Prop} {L : Regs} {O S : List Fact} {ty : TypeId} {pos : String} {aft : Array Edge} {dst : Option Tmp} {gu : Option (Nat × Bool)} {x y : Operand}
theorem y_minR {ts : Array TypeId} {k : IntKind} {m n : Int} (hx : val L x = some (.int k m)) (hy : val L y = some (.int k n)) (h : n ≤ m) : Yi C ⟨dst, .call ⟨.builtin .min, #[x, y], ts⟩, ty, pos, aft, gu⟩ L O S (.int k n) := by
  have h1 := y_min (C := C) (O := O) (S := S) (dst := dst) (ty := ty) (pos := pos) (aft := aft) (gu := gu) (ts := ts) hx hy
  rw [Int.min_eq_right h] at h1
  exact h1
end
theorem meet_V {x q : Nat} (hx : x < 64) : (((x &&& q : Nat) : Int) != 0) = meetN x q := by
  rw [Bool.eq_iff_iff]
  unfold meetN
  rw [List.any_eq_true]
  constructor
  · intro h
    have h0 : x &&& q ≠ 0 := by
      intro e
      rw [e] at h
      exact absurd h (by decide)
    obtain ⟨i, hi⟩ := Nat.exists_testBit_of_ne_zero h0
    rw [Nat.testBit_and, Bool.and_eq_true] at hi
    refine ⟨i, List.mem_range.2 ?_, by rw [hi.1, hi.2]; rfl⟩
    refine Nat.lt_of_not_le fun h8 => ?_
    have := Nat.testBit_lt_two_pow (show x < 2 ^ i from Nat.lt_of_lt_of_le hx (Nat.le_trans (by decide : 64 ≤ 2 ^ 8) (Nat.pow_le_pow_right (by decide) h8)))
    rw [hi.1] at this; cases this
  · rintro ⟨i, _, hi⟩
    rw [← Nat.testBit_and] at hi
    have h0 : x &&& q ≠ 0 := by
      intro e
      rw [e, Nat.zero_testBit] at hi; cases hi
    simpa using h0
/-- None of the sets holds another one. -/
def ApartL (l : List Nat) : Prop := ∀ (i k : Nat) a b, i ≠ k → l[i]? = some a → l[k]? = some b → hasN b a = false
theorem apart_min {l : List Nat} (hl : ∀ x ∈ l, x < 64) : ApartL (minL l) := fun i k a b hik ha hb => by
  cases h : hasN b a with
  | false => rfl
  | true =>
    have hne : a ≠ b := by
      intro e
      subst e
      have hi := (List.getElem?_eq_some_iff.1 ha).1
      exact hik ((List.getElem?_inj hi (minL_nodup l)).1 (ha.trans hb.symm))
    exact absurd (hasN_iff.1 h) (minL_apart hl (List.mem_of_getElem? ha) (List.mem_of_getElem? hb) hne)
theorem any_take {α : Type} (q : α → Bool) {l : List α} {k : Nat} {x : α} (h : l[k]? = some x) : (l.take (k + 1)).any q = ((l.take k).any q || q x) := by
  rw [List.take_add_one, h, Option.toList_some, List.any_append]; simp
theorem all_take {α : Type} (q : α → Bool) {l : List α} {k : Nat} {x : α} (h : l[k]? = some x) : (l.take (k + 1)).all q = ((l.take k).all q && q x) := by
  rw [List.take_add_one, h, Option.toList_some, List.all_append]; simp
end Go.Proofs.Ytomidcehahdmbaa
namespace Go.Proofs.Ytomidcehahdmbaa
open Go.Sx Go.RowKit
set_option maxRecDepth 20000

end Go.Proofs.Ytomidcehahdmbaa
namespace Go.Proofs.Ytomidcehahdmbaa
open Go.Sx Go.RowKit Vm
set_option maxRecDepth 20000
theorem k_inS (a b : Nat) (w : World) (ha : a ≤ 9223372036854775807) (hb : b ≤ 9223372036854775807) : Calls Try.prog 25 #[.int .i64 (a : Nat), .int .i64 (b : Nat)] w (fun e w' => e = .returned (.bool (hasN b a)) ∧ Grow w w') := by
  refine enter_pure (args := [.int .i64 (a : Nat), .int .i64 (b : Nat)]) [] Try.func25 rfl (by rw [Try.ntmps25]; simp) (by simp) ?_
  refine cj_seq ?_
  refine cj_regionG (gj_step (y_assign rfl) rfl rfl rfl (gj_nil ?_))
  refine ej_th (cj_seq ?_)
  refine cj_regionG (gj_step (y_move rfl) rfl rfl rfl (gj_step (y_move rfl) rfl rfl rfl (gj_step (y_andN rfl rfl (by omega) (by omega)) rfl rfl rfl (gj_step (y_move rfl) rfl rfl rfl (gj_step (y_eql rfl rfl) rfl rfl rfl (gj_step (y_assign rfl) rfl rfl rfl (gj_nil ?_)))))))
  refine ej_th (cj_ret ?_)
  refine ej_ret1 rfl Try.results25 rfl (fun w' hp => ⟨?_, hp.below⟩)
  congr 2
  unfold hasN
  rw [Bool.eq_iff_iff, decide_eq_true_iff, beq_iff_eq]
  omega

theorem k_least2 (l : List Nat) (A : Option Addr) (c : Nat) (w : World) (hl : Rd w 1 enInt A (intsL l)) (hap : ApartL l) (h64 : ∀ x ∈ l, x < 64) : Calls Try.prog 28 #[.slice A (intsL l).length c] w (fun e w' => e = .returned (.bool true) ∧ Grow w w') := by
  have hel := enC l
  have hll := hl.len
  rw [hel] at hll
  refine enter_pure (args := [.slice A (intsL l).length c]) [sl (fun b => b < w.heap.size) 1 enInt A (intsL l)] Try.func28 rfl (by rw [Try.ntmps28]; simp) (fun g hg => by simp at hg; subst hg; exact ⟨hl, fun _ h => h⟩) ?_
  refine cj_seq ?_
  refine cj_regionG (gj_step (y_assign rfl) rfl rfl rfl (gj_nil ?_))
  refine ej_th (cj_seq (cj_seq ?_))
  refine cj_regionG (gj_step (y_assign rfl) rfl rfl rfl (gj_nil ?_))
  refine ej_th (cj_block ?_)
  refine cj_lpic (X := Nat) [(0, _)] (fun i => i ≤ l.length) (fun i => [(3, .int .i64 (i : Nat))]) (fun i => l.length - i) 0 (Nat.zero_le _) ⟨rfl, rfl, trivial⟩ ?_
  rintro i hi
  dsimp only [List.cons_append, List.nil_append]
  refine cj_seq (cj_seq ?_)
  refine cj_regionG (gj_step (y_move rfl) rfl rfl rfl (gj_step (y_move rfl) rfl rfl rfl (gj_step (y_lenA Try.underlying24 rfl) rfl rfl rfl (gj_step (y_lss rfl rfl) rfl rfl rfl (gj_nil ?_)))))
  refine ej_th ?_
  refine cj_cond rfl (fun h8 => ?_) (fun h8 => ?_)
  · have h8b := h8
    try simp only [sxb] at h8
    obtain ⟨x, hx⟩ : ∃ x, l[i]? = some x := ⟨_, List.getElem?_eq_getElem (by omega)⟩
    have hx64 := h64 x (List.mem_of_getElem? hx)
    refine cj_skip (ej_th (cj_seq (cj_block (cj_seq ?_))))
    refine cj_regionG (gj_step (y_assign rfl) rfl rfl rfl (gj_nil ?_))
    refine ej_th (cj_block ?_)
    refine cj_lpic (X := Nat) [(3, _), (0, _)] (fun j => j ≤ l.length) (fun j => [(4, .int .i64 (j : Nat))]) (fun j => l.length - j) 0 (Nat.zero_le _) ⟨rfl, rfl, rfl, trivial⟩ ?_
    rintro j hj
    dsimp only [List.cons_append, List.nil_append]
    refine cj_seq (cj_seq ?_)
    refine cj_regionG (gj_step (y_move rfl) rfl rfl rfl (gj_step (y_move rfl) rfl rfl rfl (gj_step (y_lenA Try.underlying24 rfl) rfl rfl rfl (gj_step (y_lss rfl rfl) rfl rfl rfl (gj_nil ?_)))))
    refine ej_th ?_
    refine cj_cond rfl (fun h14 => ?_) (fun h14 => ?_)
    · have h14b := h14
      try simp only [sxb] at h14
      obtain ⟨y, hy⟩ : ∃ y, l[j]? = some y := ⟨_, List.getElem?_eq_getElem (by omega)⟩
      have hy64 := h64 y (List.mem_of_getElem? hy)
      refine cj_skip (ej_th (cj_seq (cj_block (cj_seq ?_))))
      refine cj_draw (by kernel_rfl) (by kernel_rfl) ?_
      refine gj_step (y_move rfl) rfl rfl rfl (gj_step (y_move rfl) rfl rfl rfl (gj_step (y_neq rfl rfl) rfl rfl rfl (gj_step (y_move rfl) rfl rfl rfl (?_))))
      refine gj_g 9 20 29 rfl rfl rfl rfl (fun hg20 => gj_yes rfl rfl rfl (y_move rfl) rfl rfl (gj_yes rfl rfl rfl (y_move rfl) rfl rfl (gj_yes rfl rfl rfl (y_ixR (reads_sl) Try.underlying24 Try.sizeOf3 rfl rfl (⟨by omega, by omega⟩)) rfl rfl (gj_yes rfl rfl rfl (y_ld0 (reads_sl) Try.isAgg3 rfl (get_ints hx) rfl) rfl rfl (gj_yes rfl rfl rfl (y_move rfl) rfl rfl (gj_yes rfl rfl rfl (y_move rfl) rfl rfl (gj_yes rfl rfl rfl (y_ixR (reads_sl) Try.underlying24 Try.sizeOf3 rfl rfl (⟨by omega, by omega⟩)) rfl rfl (gj_yes rfl rfl rfl (y_ld0 (reads_sl) Try.isAgg3 rfl (get_ints hy) rfl) rfl rfl (gj_yes rfl rfl rfl (y_call Try.call25 rfl (fun w hp => k_inS x y w (by omega) (by omega))) rfl rfl (gj_nil rfl)))))))))) ?_
      refine gj_step (y_and rfl rfl rfl) rfl rfl rfl (?_)
      refine gj_nil ?_
      refine ej_th ?_
      refine cj_cond rfl (fun h30 => ?_) (fun h30 => ?_)
      · rw [Bool.and_eq_true] at h30
        have hij : i ≠ j := by have h9 := h30.1; simp at h9; omega
        have h9 := hap i j x y hij hx hy
        rw [h9] at h30; exact absurd h30.2 (by simp)
      · have h30b := h30
        try simp only [sxb] at h30
        refine cj_skip (ej_blk (ej_th ?_))
        refine cj_regionG (gj_step (y_move rfl) rfl rfl rfl (gj_step (y_add rfl rfl (by omega)) rfl rfl rfl (gj_step (y_assign rfl) rfl rfl rfl (gj_nil ?_))))
        exact ej_nx (j + 1) (by omega) (by omega) ⟨rfl, rfl, rfl, trivial⟩
    · have h14b := h14
      try simp only [sxb] at h14
      refine cj_exit (ej_then_exit (ej_then_exit (ej_blk_hit (ej_blk (ej_th ?_)))))
      refine cj_regionG (gj_step (y_move rfl) rfl rfl rfl (gj_step (y_add rfl rfl (by omega)) rfl rfl rfl (gj_step (y_assign rfl) rfl rfl rfl (gj_nil ?_))))
      exact ej_nx (i + 1) (by omega) (by omega) ⟨rfl, rfl, trivial⟩
  · have h8b := h8
    try simp only [sxb] at h8
    refine cj_exit (ej_then_exit (ej_then_exit (ej_blk_hit (ej_th (cj_seq ?_)))))
    refine cj_regionG (gj_step (y_assign rfl) rfl rfl rfl (gj_nil ?_))
    refine ej_th (cj_ret ?_)
    exact ej_ret1 rfl Try.results28 rfl (fun w' hp => ⟨rfl, hp.below⟩)

end Go.Proofs.Ytomidcehahdmbaa
namespace Go.Proofs.Ytomidcehahdmbaa
open Go.Sx Go.RowKit Vm
set_option maxRecDepth 20000
set_option maxHeartbeats 1600000 in
theorem k_rway (s : StrV) (n m : Nat) (hb : strB s.s = true) (hn : n < 64) (hm : m ≤ 6) : ∀ (d r : Nat) (l : List Nat) (A : Option Addr) (c : Nat) (fp : Nat → Prop) (w : World), StrRd w s → (sl fp 1 enInt A (intsL l)).P w → (∀ b, fp b → b < w.heap.size) → r < 2 ^ s.rooms.length → l.length + d ≤ 100 →
    Calls Try.prog 70 #[.agg #[.slice s.Ar s.rooms.length s.cr, .slice s.Ag s.gates.length s.cg, .slice s.As s.staff.length s.cs, .int .i64 (n : Nat), .int .i64 (m : Nat)], .slice A (intsL l).length c, .int .i64 (r : Nat), .int .i64 (d : Nat)] w (fun e w' => ∃ x : Option Addr × Nat × List Nat, e = .returned (.tuple #[.slice x.1 (intsL x.2.2).length x.2.1, .bool (dfs s.s n m d r).isSome]) ∧ Grow w w' ∧ (sl (fun b => fp b ∨ (w.heap.size ≤ b ∧ b < w'.heap.size)) 1 enInt x.1 (intsL x.2.2)).P w' ∧ ∀ l', dfs s.s n m d r = some l' → x.2.2 = l ++ l') := by
  intro d
  induction d using Nat.strongRecOn with
  | _ d ih =>
  intro r l A c fp w hs hl hfp hr hld
  have hok := StrOk.of hb
  have hnr := hok.nr
  have hng := hok.ng
  have hns := hok.ns
  have hr64 : r < 64 := Nat.lt_of_lt_of_le hr (pow_le64 hnr.2)
  have hel := enC l
  refine enter_pure (args := [.agg #[.slice s.Ar s.rooms.length s.cr, .slice s.Ag s.gates.length s.cg, .slice s.As s.staff.length s.cs, .int .i64 (n : Nat), .int .i64 (m : Nat)], .slice A (intsL l).length c, .int .i64 (r : Nat), .int .i64 (d : Nat)]) [sl (fun b => b < w.heap.size) 3 encRo s.Ar s.rooms, sl (fun b => b < w.heap.size) 4 encGa s.Ag s.gates, sl (fun b => b < w.heap.size) 1 enInt s.As s.staff, sl fp 1 enInt A (intsL l)] Try.func70 rfl (by rw [Try.ntmps70]; simp) (fun g hg => by
    simp only [List.mem_cons, List.mem_nil_iff, or_false] at hg
    rcases hg with rfl | rfl | rfl | rfl
    · exact ⟨hs.rooms, fun _ h => h⟩
    · exact ⟨hs.gates, fun _ h => h⟩
    · exact ⟨hs.staff, fun _ h => h⟩
    · exact ⟨hl, hfp⟩) ?_
  refine cj_seq (cj_region ?_)
  refine oj_box rfl rfl rfl (fun b4 => ?_)
  refine oj_step (y_assign rfl) rfl rfl rfl ?_
  refine oj_step (y_assign rfl) rfl rfl rfl ?_
  refine oj_nil ?_
  refine ej_th (cj_seq (cj_seq ?_))
  refine cj_regionG (gj_step (y_move rfl) rfl rfl rfl (gj_step (y_eql rfl rfl) rfl rfl rfl (gj_nil ?_)))
  refine ej_th ?_
  refine cj_cond rfl (fun h14 => ?_) (fun h14 => ?_)
  · have h14b := h14
    try simp only [sxb] at h14
    have hd0 : d = 0 := by simpa using h14
    subst hd0
    refine cj_seq ?_
    refine cj_regionG ?_
    refine gj_step (y_move rfl) rfl rfl rfl (gj_step (y_move rfl) rfl rfl rfl (gj_step (y_fa fa102_2 rfl) rfl rfl rfl (gj_step (y_load1 Try.isAgg3 rfl rfl) rfl rfl rfl (?_))))
    refine gj_step (y_call Try.call29 rfl (fun w hp => k_Bit r m w (by omega))) rfl rfl rfl ?_
    refine gj_step (y_assign rfl) rfl rfl rfl (gj_step (y_assign rfl) rfl rfl rfl (?_))
    refine gj_nil ?_
    refine ej_th (cj_ret (ej_then_ret ?_))
    exact ej_ret2 rfl Try.results70 rfl rfl (fun w' hp => ⟨(A, c, l), by rw [dfs_0]; cases r.testBit m <;> rfl, hp.below, sl_fp (hp.shared _ (.tail _ (.tail _ (.tail _ (.head _))))).1 (fun b h => .inl h), fun l' hl' => by
      rw [dfs_0] at hl'
      cases hbt : r.testBit m with
      | false => rw [hbt] at hl'; simp at hl'
      | true =>
        rw [hbt, if_pos rfl] at hl'
        injection hl' with hl'
        rw [← hl', List.append_nil]⟩)
  · have h14b := h14
    try simp only [sxb] at h14
    have hd0 : d ≠ 0 := by simpa using h14
    obtain ⟨d, rfl⟩ : ∃ d0, d = d0 + 1 := ⟨d - 1, by omega⟩
    refine cj_skip (ej_th (cj_seq (cj_seq ?_)))
    refine cj_regionG (gj_step (y_assign rfl) rfl rfl rfl (gj_nil ?_))
    refine ej_th (cj_block ?_)
    refine cj_lpi (X := Nat) [(1, _), (2, _), (3, _), (4, _)] (fun k => k ≤ s.gates.length ∧ ((List.range s.gates.length).drop k).findSome? (dfsF s n m d r) = ((List.range s.gates.length).drop 0).findSome? (dfsF s n m d r)) (fun k => [(10, .int .i64 (k : Nat))]) (fun k => [ownB b4 (cellsB 102 [.slice s.Ar s.rooms.length s.cr, .slice s.Ag s.gates.length s.cg, .slice s.As s.staff.length s.cs, .int .i64 (n : Nat), .int .i64 (m : Nat)])]) (fun k => [sl (fun b => b < w.heap.size) 3 encRo s.Ar s.rooms, sl (fun b => b < w.heap.size) 4 encGa s.Ag s.gates, sl (fun b => b < w.heap.size) 1 enInt s.As s.staff, sl fp 1 enInt A (intsL l)]) (fun k => s.gates.length - k) 0 (⟨Nat.zero_le _, rfl⟩) ⟨rfl, rfl, rfl, rfl, rfl, trivial⟩ ?_
    rintro k ⟨hk, hsk⟩
    dsimp only [List.cons_append, List.nil_append]
    refine cj_seq (cj_seq ?_)
    refine cj_regionG (gj_step (y_move rfl) rfl rfl rfl (gj_step (y_fa0 fa102_0 rfl) rfl rfl rfl (gj_step (y_fa fa26_1 rfl) rfl rfl rfl (gj_step (y_load1 Try.isAgg23 rfl rfl) rfl rfl rfl (gj_step (y_lenA Try.underlying23 rfl) rfl rfl rfl (gj_step (y_lss rfl rfl) rfl rfl rfl (gj_nil ?_)))))))
    refine ej_th ?_
    refine cj_cond rfl (fun h25 => ?_) (fun h25 => ?_)
    · have h25b := h25
      try simp only [sxb] at h25
      obtain ⟨g, hgk⟩ : ∃ g, s.gates[k]? = some g := ⟨_, List.getElem?_eq_getElem (by omega)⟩
      have hg := List.mem_of_getElem? hgk
      rw [dfs_step (by omega)] at hsk
      refine cj_skip (ej_th (cj_seq (cj_block (cj_seq (cj_seq ?_)))))
      refine cj_regionG ?_
      refine gj_step (y_fa0 fa102_0 rfl) rfl rfl rfl (gj_step (y_loadN Try.isAgg26 Try.sizeOf26 rfl) rfl rfl rfl (gj_step (y_fa fa102_1 rfl) rfl rfl rfl (gj_step (y_load1 Try.isAgg3 rfl rfl) rfl rfl rfl (gj_step (y_move rfl) rfl rfl rfl (gj_step (y_move rfl) rfl rfl rfl (?_))))))
      refine gj_step (y_call Try.call56 rfl (fun w hp => k_rleads s n r k g w (hs.mono hp.below) hok hn hgk)) rfl rfl rfl ?_
      refine gj_step (y_not rfl) rfl rfl rfl (?_)
      refine gj_nil ?_
      refine ej_th ?_
      refine cj_cond rfl (fun h35 => ?_) (fun h35 => ?_)
      · have h35b := h35
        try simp only [sxb] at h35
        rw [dfsF_no hgk (not_t h35b)] at hsk
        refine cj_exit (ej_then_exit (ej_blk_hit (ej_th ?_)))
        refine cj_regionG (gj_step (y_move rfl) rfl rfl rfl (gj_step (y_add rfl rfl (by omega)) rfl rfl rfl (gj_step (y_assign rfl) rfl rfl rfl (gj_nil ?_))))
        exact ej_nx (k + 1) (by omega) ⟨by omega, hsk⟩ ⟨rfl, rfl, rfl, rfl, rfl, trivial⟩
      · have h35b := h35
        try simp only [sxb] at h35
        have hld := not_f h35b
        rw [dfsF_yes hgk hld] at hsk
        have hlt := next_lt hb hr (List.mem_map.2 ⟨g, hg, rfl⟩)
        refine cj_skip (ej_th (cj_seq ?_))
        refine cj_plan 19 (by kernel_rfl) (by kernel_rfl) ?_
        refine pl_y 0 rfl (y_loadN Try.isAgg102 Try.sizeOf102 rfl) rfl rfl rfl rfl (by kernel_rfl) ?_
        refine pl_y 1 rfl (y_move rfl) rfl rfl rfl rfl (by kernel_rfl) ?_
        refine pl_y 3 rfl (y_move rfl) rfl rfl rfl rfl (by kernel_rfl) ?_
        refine pl_y 6 rfl (y_fa0 fa102_0 rfl) rfl rfl rfl rfl (by kernel_rfl) ?_
        refine pl_y 7 rfl (y_loadN Try.isAgg26 Try.sizeOf26 rfl) rfl rfl rfl rfl (by kernel_rfl) ?_
        refine pl_y 8 rfl (y_move rfl) rfl rfl rfl rfl (by kernel_rfl) ?_
        refine pl_y 9 rfl (y_move rfl) rfl rfl rfl rfl (by kernel_rfl) ?_
        refine pl_y 11 rfl (y_move rfl) rfl rfl rfl rfl (by kernel_rfl) ?_
        refine pl_y 12 rfl (y_sub rfl rfl (by omega)) rfl rfl rfl rfl (by kernel_rfl) ?_
        refine pl_w2 2 4 (by kernel_rfl) rfl rfl (pl_fire rfl rfl rfl (by kernel_rfl) ?_) (pl_fire rfl rfl rfl (by kernel_rfl) ?_)
        · refine oj_callO (fun B d => .slice B (intsL l).length d) 3 1 enInt (intsL l) Try.call26 rfl (fun w hp => k_Own (intsL l) A c w hp.rd (by omega)) rfl (fun A39 c39 => ?_)
          refine oj_nil ?_
          refine ej_pl (lt_y (y_sub rfl rfl (by omega)) rfl (lt_y (y_move rfl) rfl (lt_y (y_move rfl) rfl (lt_y (y_move rfl) rfl (lt_y (y_loadN Try.isAgg26 Try.sizeOf26 rfl) rfl (lt_y (y_fa0 fa102_0 rfl) rfl (lt_y (y_move rfl) rfl (lt_w (by kernel_rfl) (lt_y (y_loadN Try.isAgg102 Try.sizeOf102 rfl) rfl (lt_nil)))))))))) ?_
          refine pl_w1 4 (by kernel_rfl) rfl rfl (pl_fire rfl rfl rfl (by kernel_rfl) ?_)
          refine oj_buildSlice (cs := [.int .i64 (k : Nat)]) [.int .i64 0] Try.underlying24 Try.sizeOf3 Try.zeroValue3 rfl rfl (by kernel_rfl) (by kernel_rfl) rfl (fun b41 => ?_)
          refine oj_nil ?_
          refine ej_pl (lt_y (y_sub rfl rfl (by omega)) rfl (lt_y (y_move rfl) rfl (lt_y (y_move rfl) rfl (lt_y (y_move rfl) rfl (lt_y (y_loadN Try.isAgg26 Try.sizeOf26 rfl) rfl (lt_y (y_fa0 fa102_0 rfl) rfl (lt_w (by kernel_rfl) (lt_y (y_move rfl) rfl (lt_y (y_loadN Try.isAgg102 Try.sizeOf102 rfl) rfl (lt_nil)))))))))) ?_
          refine pl_w1 5 (by kernel_rfl) rfl rfl (pl_fire rfl rfl rfl (by kernel_rfl) ?_)
          refine oj_append  el24 (fun _ => rfl) enInt_one rfl rfl rfl (reads_lit [((k : Nat) : Int)] (fun _ => rfl) rfl) (by unfold maxLen; simp only [List.length_append, List.length_cons, List.length_nil]; omega) (by simp only [List.length_append, List.length_cons, List.length_nil]; omega) rfl (fun A42 c42 => ?_)
          refine oj_nil ?_
          refine ej_pl (lt_y (y_sub rfl rfl (by omega)) rfl (lt_y (y_move rfl) rfl (lt_y (y_move rfl) rfl (lt_y (y_move rfl) rfl (lt_y (y_loadN Try.isAgg26 Try.sizeOf26 rfl) rfl (lt_y (y_fa0 fa102_0 rfl) rfl (lt_y (y_move rfl) rfl (lt_y (y_move rfl) rfl (lt_y (y_loadN Try.isAgg102 Try.sizeOf102 rfl) rfl (lt_nil)))))))))) ?_
          refine pl_y 10 rfl (y_call Try.call71 rfl (fun w hp => k_both s r k g w (hs.mono hp.below) hok hr64 hgk)) rfl rfl rfl rfl (by kernel_rfl) ?_
          refine pl_w1 13 (by kernel_rfl) rfl rfl (pl_fire rfl rfl rfl (by kernel_rfl) ?_)
          refine oj_get (p := ∀ b, (ow 3 1 enInt A42 c42 (intsL l ++ [((k : Nat) : Int)])).fp b → w.heap.size ≤ b) (fun w1 hp b hb => Nat.le_of_not_lt ((hp.own _ (HasOw.mem (O := _) (A := A42))).2 b hb).2) (fun hfo => ?_)
          refine oj_frzS (O' := [ownB b4 (cellsB 102 [.slice s.Ar s.rooms.length s.cr, .slice s.Ag s.gates.length s.cg, .slice s.As s.staff.length s.cs, .int .i64 (n : Nat), .int .i64 (m : Nat)])]) (ow 3 1 enInt A42 c42 (intsL l ++ [((k : Nat) : Int)])) (sl (fun b => (ow 3 1 enInt A42 c42 (intsL l ++ [((k : Nat) : Int)])).fp b) 1 enInt A42 (intsL (l ++ [k]))) (fun w1 hp => by rw [ints_snoc]; exact owSl (hp.own _ (HasOw.mem (O := _) (A := A42))).1 enInt_len (by rw [List.length_append, hel]; unfold maxLen; simp only [List.length_cons, List.length_nil]; omega) (fun b h => h)) (fun b h => .inl h) ?_
          refine oj_callR (X := { z : (Option Addr × Nat × List Nat × Nat × Nat) // w.heap.size ≤ z.2.2.2.1 ∧ ∀ l', dfs s.s n m d (nextN r g.n) = some l' → z.2.2.1 = (l ++ [k]) ++ l' }) (fun z => .tuple #[.slice z.1.1 (intsL z.1.2.2.1).length z.1.2.1, .bool (dfs s.s n m d (nextN r g.n)).isSome]) (fun z => [sl (fun b => (ow 3 1 enInt A42 c42 (intsL l ++ [((k : Nat) : Int)])).fp b ∨ (z.1.2.2.2.1 ≤ b ∧ b < z.1.2.2.2.2)) 1 enInt z.1.1 (intsL z.1.2.2.1)]) Try.call70 rfl (fun w1 hp => by
            have h9 := ih d (by omega) (nextN r g.n) (l ++ [k]) A42 c42 (fun b => (ow 3 1 enInt A42 c42 (intsL l ++ [((k : Nat) : Int)])).fp b) w1 (hs.mono hp.below) (hp.shared _ (.head _)).1 (hp.shared _ (.head _)).2.1 hlt (by simp only [List.length_append, List.length_cons, List.length_nil]; omega)
            rw [ints_snoc] at h9
            rw [show (((d + 1 : Nat) : Int) - 1) = (d : Nat) by omega]
            exact h9.mono fun e w2 ⟨x, he, hg, hP, hl'⟩ => ⟨⟨(x.1, x.2.1, x.2.2, w1.heap.size, w2.heap.size), hp.size, hl'⟩, he, hg, fun f hf => by
              rw [List.mem_singleton.1 hf]
              exact ⟨hP, fun b hb => hb.elim (fun h => .inl ⟨_, .head _, h⟩) (fun h => .inr h)⟩⟩) rfl ?_
          rintro ⟨⟨A50, c50, l50, n1, n2⟩, hn1, hl50⟩
          dsimp only [List.cons_append, List.nil_append] at hn1 hl50 ⊢
          refine oj_nil ?_
          refine ej_pl (lt_w (by kernel_rfl) (lt_w (by kernel_rfl) (lt_y (y_move rfl) rfl (lt_y (y_move rfl) rfl (lt_y (y_move rfl) rfl (lt_y (y_loadN Try.isAgg26 Try.sizeOf26 rfl) rfl (lt_y (y_fa0 fa102_0 rfl) rfl (lt_y (y_move rfl) rfl (lt_y (y_move rfl) rfl (lt_w (by kernel_rfl) (lt_nil))))))))))) ?_
          refine pl_y 14 rfl (y_move rfl) rfl rfl rfl rfl (by kernel_rfl) ?_
          refine pl_y 15 rfl (y_extract rfl rfl) rfl rfl rfl rfl (by kernel_rfl) ?_
          refine pl_y 16 rfl (y_extract rfl rfl) rfl rfl rfl rfl (by kernel_rfl) ?_
          refine pl_y 17 rfl (y_assign rfl) rfl rfl rfl rfl (by kernel_rfl) ?_
          refine pl_y 18 rfl (y_assign rfl) rfl rfl rfl rfl (by kernel_rfl) ?_
          refine pl_end (by kernel_rfl) ?_
          refine ej_th (cj_seq ?_)
          refine cj_regionG (gj_step (y_move rfl) rfl rfl rfl (gj_nil ?_))
          refine ej_th ?_
          refine cj_cond rfl (fun h53 => ?_) (fun h53 => ?_)
          · have h53b := h53
            try simp only [sxb] at h53
            obtain ⟨l2, hl2⟩ := Option.isSome_iff_exists.1 h53b
            have hle := hl50 l2 hl2
            rw [hl2] at hsk
            have hsk2 : dfs s.s n m (d + 1) r = some (k :: l2) := by rw [dfs_S, ← hsk]; rfl
            refine cj_seq ?_
            refine cj_regionG (gj_step (y_move rfl) rfl rfl rfl (gj_step (y_assign rfl) rfl rfl rfl (gj_step (y_assign rfl) rfl rfl rfl (gj_nil ?_))))
            refine ej_th (cj_ret (ej_blk_ret (ej_then_ret (ej_then_ret (ej_blk_ret (ej_then_ret ?_))))))
            exact ej_ret2 rfl Try.results70 rfl rfl (fun w' hp => ⟨(A50, c50, l50), by rw [hsk2]; rfl, hp.below, sl_fp (hp.shared _ (.head _)).1 (fun b h => .inr ⟨h.elim (hfo b) (fun h => Nat.le_trans hn1 h.1), (hp.shared _ (.head _)).2.1 b h⟩), fun l' hl' => by
              rw [hsk2] at hl'
              injection hl' with hl'
              rw [hle, ← hl', List.append_assoc]; rfl⟩)
          · have h53b := h53
            try simp only [sxb] at h53
            rw [Option.isSome_eq_false_iff, Option.isNone_iff_eq_none] at h53b
            rw [h53b] at hsk
            refine cj_skip (ej_blk (ej_th ?_))
            refine cj_regionG (gj_step (y_move rfl) rfl rfl rfl (gj_step (y_add rfl rfl (by omega)) rfl rfl rfl (gj_step (y_assign rfl) rfl rfl rfl (gj_nil ?_))))
            exact ej_nx (k + 1) (by omega) ⟨by omega, hsk⟩ ⟨rfl, rfl, rfl, rfl, rfl, trivial⟩
        · refine oj_buildSlice (cs := [.int .i64 (k : Nat)]) [.int .i64 0] Try.underlying24 Try.sizeOf3 Try.zeroValue3 rfl rfl (by kernel_rfl) (by kernel_rfl) rfl (fun b41 => ?_)
          refine oj_nil ?_
          refine ej_pl (lt_y (y_sub rfl rfl (by omega)) rfl (lt_y (y_move rfl) rfl (lt_y (y_move rfl) rfl (lt_y (y_move rfl) rfl (lt_y (y_loadN Try.isAgg26 Try.sizeOf26 rfl) rfl (lt_y (y_fa0 fa102_0 rfl) rfl (lt_w (by kernel_rfl) (lt_y (y_move rfl) rfl (lt_y (y_loadN Try.isAgg102 Try.sizeOf102 rfl) rfl (lt_nil)))))))))) ?_
          refine pl_w1 2 (by kernel_rfl) rfl rfl (pl_fire rfl rfl rfl (by kernel_rfl) ?_)
          refine oj_callO (fun B d => .slice B (intsL l).length d) 3 1 enInt (intsL l) Try.call26 rfl (fun w hp => k_Own (intsL l) A c w hp.rd (by omega)) rfl (fun A39 c39 => ?_)
          refine oj_nil ?_
          refine ej_pl (lt_y (y_sub rfl rfl (by omega)) rfl (lt_y (y_move rfl) rfl (lt_y (y_move rfl) rfl (lt_y (y_move rfl) rfl (lt_y (y_loadN Try.isAgg26 Try.sizeOf26 rfl) rfl (lt_y (y_fa0 fa102_0 rfl) rfl (lt_y (y_move rfl) rfl (lt_w (by kernel_rfl) (lt_y (y_loadN Try.isAgg102 Try.sizeOf102 rfl) rfl (lt_nil)))))))))) ?_
          refine pl_w1 5 (by kernel_rfl) rfl rfl (pl_fire rfl rfl rfl (by kernel_rfl) ?_)
          refine oj_append  el24 (fun _ => rfl) enInt_one rfl rfl rfl (reads_lit [((k : Nat) : Int)] (fun _ => rfl) rfl) (by unfold maxLen; simp only [List.length_append, List.length_cons, List.length_nil]; omega) (by simp only [List.length_append, List.length_cons, List.length_nil]; omega) rfl (fun A42 c42 => ?_)
          refine oj_nil ?_
          refine ej_pl (lt_y (y_sub rfl rfl (by omega)) rfl (lt_y (y_move rfl) rfl (lt_y (y_move rfl) rfl (lt_y (y_move rfl) rfl (lt_y (y_loadN Try.isAgg26 Try.sizeOf26 rfl) rfl (lt_y (y_fa0 fa102_0 rfl) rfl (lt_y (y_move rfl) rfl (lt_y (y_move rfl) rfl (lt_y (y_loadN Try.isAgg102 Try.sizeOf102 rfl) rfl (lt_nil)))))))))) ?_
          refine pl_y 10 rfl (y_call Try.call71 rfl (fun w hp => k_both s r k g w (hs.mono hp.below) hok hr64 hgk)) rfl rfl rfl rfl (by kernel_rfl) ?_
          refine pl_w1 13 (by kernel_rfl) rfl rfl (pl_fire rfl rfl rfl (by kernel_rfl) ?_)
          refine oj_get (p := ∀ b, (ow 3 1 enInt A42 c42 (intsL l ++ [((k : Nat) : Int)])).fp b → w.heap.size ≤ b) (fun w1 hp b hb => Nat.le_of_not_lt ((hp.own _ (HasOw.mem (O := _) (A := A42))).2 b hb).2) (fun hfo => ?_)
          refine oj_frzS (O' := [ownB b4 (cellsB 102 [.slice s.Ar s.rooms.length s.cr, .slice s.Ag s.gates.length s.cg, .slice s.As s.staff.length s.cs, .int .i64 (n : Nat), .int .i64 (m : Nat)])]) (ow 3 1 enInt A42 c42 (intsL l ++ [((k : Nat) : Int)])) (sl (fun b => (ow 3 1 enInt A42 c42 (intsL l ++ [((k : Nat) : Int)])).fp b) 1 enInt A42 (intsL (l ++ [k]))) (fun w1 hp => by rw [ints_snoc]; exact owSl (hp.own _ (HasOw.mem (O := _) (A := A42))).1 enInt_len (by rw [List.length_append, hel]; unfold maxLen; simp only [List.length_cons, List.length_nil]; omega) (fun b h => h)) (fun b h => .inl h) ?_
          refine oj_callR (X := { z : (Option Addr × Nat × List Nat × Nat × Nat) // w.heap.size ≤ z.2.2.2.1 ∧ ∀ l', dfs s.s n m d (nextN r g.n) = some l' → z.2.2.1 = (l ++ [k]) ++ l' }) (fun z => .tuple #[.slice z.1.1 (intsL z.1.2.2.1).length z.1.2.1, .bool (dfs s.s n m d (nextN r g.n)).isSome]) (fun z => [sl (fun b => (ow 3 1 enInt A42 c42 (intsL l ++ [((k : Nat) : Int)])).fp b ∨ (z.1.2.2.2.1 ≤ b ∧ b < z.1.2.2.2.2)) 1 enInt z.1.1 (intsL z.1.2.2.1)]) Try.call70 rfl (fun w1 hp => by
            have h9 := ih d (by omega) (nextN r g.n) (l ++ [k]) A42 c42 (fun b => (ow 3 1 enInt A42 c42 (intsL l ++ [((k : Nat) : Int)])).fp b) w1 (hs.mono hp.below) (hp.shared _ (.head _)).1 (hp.shared _ (.head _)).2.1 hlt (by simp only [List.length_append, List.length_cons, List.length_nil]; omega)
            rw [ints_snoc] at h9
            rw [show (((d + 1 : Nat) : Int) - 1) = (d : Nat) by omega]
            exact h9.mono fun e w2 ⟨x, he, hg, hP, hl'⟩ => ⟨⟨(x.1, x.2.1, x.2.2, w1.heap.size, w2.heap.size), hp.size, hl'⟩, he, hg, fun f hf => by
              rw [List.mem_singleton.1 hf]
              exact ⟨hP, fun b hb => hb.elim (fun h => .inl ⟨_, .head _, h⟩) (fun h => .inr h)⟩⟩) rfl ?_
          rintro ⟨⟨A50, c50, l50, n1, n2⟩, hn1, hl50⟩
          dsimp only [List.cons_append, List.nil_append] at hn1 hl50 ⊢
          refine oj_nil ?_
          refine ej_pl (lt_w (by kernel_rfl) (lt_w (by kernel_rfl) (lt_y (y_move rfl) rfl (lt_y (y_move rfl) rfl (lt_y (y_move rfl) rfl (lt_y (y_loadN Try.isAgg26 Try.sizeOf26 rfl) rfl (lt_y (y_fa0 fa102_0 rfl) rfl (lt_y (y_move rfl) rfl (lt_y (y_move rfl) rfl (lt_w (by kernel_rfl) (lt_nil))))))))))) ?_
          refine pl_y 14 rfl (y_move rfl) rfl rfl rfl rfl (by kernel_rfl) ?_
          refine pl_y 15 rfl (y_extract rfl rfl) rfl rfl rfl rfl (by kernel_rfl) ?_
          refine pl_y 16 rfl (y_extract rfl rfl) rfl rfl rfl rfl (by kernel_rfl) ?_
          refine pl_y 17 rfl (y_assign rfl) rfl rfl rfl rfl (by kernel_rfl) ?_
          refine pl_y 18 rfl (y_assign rfl) rfl rfl rfl rfl (by kernel_rfl) ?_
          refine pl_end (by kernel_rfl) ?_
          refine ej_th (cj_seq ?_)
          refine cj_regionG (gj_step (y_move rfl) rfl rfl rfl (gj_nil ?_))
          refine ej_th ?_
          refine cj_cond rfl (fun h53 => ?_) (fun h53 => ?_)
          · have h53b := h53
            try simp only [sxb] at h53
            obtain ⟨l2, hl2⟩ := Option.isSome_iff_exists.1 h53b
            have hle := hl50 l2 hl2
            rw [hl2] at hsk
            have hsk2 : dfs s.s n m (d + 1) r = some (k :: l2) := by rw [dfs_S, ← hsk]; rfl
            refine cj_seq ?_
            refine cj_regionG (gj_step (y_move rfl) rfl rfl rfl (gj_step (y_assign rfl) rfl rfl rfl (gj_step (y_assign rfl) rfl rfl rfl (gj_nil ?_))))
            refine ej_th (cj_ret (ej_blk_ret (ej_then_ret (ej_then_ret (ej_blk_ret (ej_then_ret ?_))))))
            exact ej_ret2 rfl Try.results70 rfl rfl (fun w' hp => ⟨(A50, c50, l50), by rw [hsk2]; rfl, hp.below, sl_fp (hp.shared _ (.head _)).1 (fun b h => .inr ⟨h.elim (hfo b) (fun h => Nat.le_trans hn1 h.1), (hp.shared _ (.head _)).2.1 b h⟩), fun l' hl' => by
              rw [hsk2] at hl'
              injection hl' with hl'
              rw [hle, ← hl', List.append_assoc]; rfl⟩)
          · have h53b := h53
            try simp only [sxb] at h53
            rw [Option.isSome_eq_false_iff, Option.isNone_iff_eq_none] at h53b
            rw [h53b] at hsk
            refine cj_skip (ej_blk (ej_th ?_))
            refine cj_regionG (gj_step (y_move rfl) rfl rfl rfl (gj_step (y_add rfl rfl (by omega)) rfl rfl rfl (gj_step (y_assign rfl) rfl rfl rfl (gj_nil ?_))))
            exact ej_nx (k + 1) (by omega) ⟨by omega, hsk⟩ ⟨rfl, rfl, rfl, rfl, rfl, trivial⟩
    · have h25b := h25
      try simp only [sxb] at h25
      rw [List.drop_of_length_le (by rw [List.length_range]; omega)] at hsk
      have hsk2 : dfs s.s n m (d + 1) r = none := by rw [dfs_S, ← hsk]; rfl
      refine cj_exit (ej_then_exit (ej_then_exit (ej_blk_hit (ej_th (cj_seq ?_)))))
      refine cj_regionG (gj_step (y_assign rfl) rfl rfl rfl (gj_step (y_assign rfl) rfl rfl rfl (gj_nil ?_)))
      refine ej_th (cj_ret ?_)
      exact ej_ret2 rfl Try.results70 rfl rfl (fun w' hp => ⟨(none, 0, []), by rw [hsk2]; rfl, hp.below, ⟨Nat.zero_le _, fun h => absurd rfl h⟩, fun l' hl' => by rw [hsk2] at hl'; cases hl'⟩)

theorem k_rWay (s : StrV) (g room : Int) (w : World) (hs : StrRd w s) : Calls Try.prog 36 #[.agg #[.slice s.Ar s.rooms.length s.cr, .slice s.Ag s.gates.length s.cg, .slice s.As s.staff.length s.cs], .int .i64 g, .int .i64 room] w (fun e w' => ∃ A c, e = .returned (.tuple #[.slice A (intsL (wayL s g room)).length c, .int .i64 (wayE s g room)]) ∧ Grow w w' ∧ Res w w' 1 enInt A (intsL (wayL s g room))) := by
  have hlr := hs.rooms.len
  refine enter_pure (args := [.agg #[.slice s.Ar s.rooms.length s.cr, .slice s.Ag s.gates.length s.cg, .slice s.As s.staff.length s.cs], .int .i64 g, .int .i64 room]) [sl (fun b => b < w.heap.size) 3 encRo s.Ar s.rooms, sl (fun b => b < w.heap.size) 4 encGa s.Ag s.gates, sl (fun b => b < w.heap.size) 1 enInt s.As s.staff] Try.func36 rfl (by rw [Try.ntmps36]; simp) (fun g hg => by simp at hg; rcases hg with rfl | rfl | rfl; exact ⟨hs.rooms, fun _ h => h⟩; exact ⟨hs.gates, fun _ h => h⟩; exact ⟨hs.staff, fun _ h => h⟩) ?_
  refine cj_seq (cj_region ?_)
  refine oj_box rfl rfl rfl (fun b3 => ?_)
  refine oj_step (y_assign rfl) rfl rfl rfl ?_
  refine oj_step (y_assign rfl) rfl rfl rfl ?_
  refine oj_nil ?_
  refine ej_th (cj_seq (cj_seq ?_))
  refine cj_regionG ?_
  refine gj_step (y_loadN Try.isAgg26 Try.sizeOf26 rfl) rfl rfl rfl (gj_step (y_move rfl) rfl rfl rfl (?_))
  refine gj_step (y_call Try.call44 rfl (fun w hp => k_rasked s g w (hs.mono hp.below))) rfl rfl rfl ?_
  refine gj_step (y_assign rfl) rfl rfl rfl (?_)
  refine gj_nil ?_
  refine ej_th (cj_seq ?_)
  refine cj_regionG (gj_step (y_move rfl) rfl rfl rfl (gj_step (y_neq rfl rfl) rfl rfl rfl (gj_nil ?_)))
  refine ej_th ?_
  refine cj_cond rfl (fun h17 => ?_) (fun h17 => ?_)
  · have h17b := h17
    try simp only [sxb] at h17
    obtain ⟨e1, e2⟩ := way_bad (m := room) h17
    refine cj_seq ?_
    refine cj_regionG (gj_step (y_move rfl) rfl rfl rfl (gj_step (y_assign rfl) rfl rfl rfl (gj_step (y_assign rfl) rfl rfl rfl (gj_nil ?_))))
    refine ej_th (cj_ret (ej_then_ret ?_))
    exact ej_ret2 rfl Try.results36 rfl rfl (fun w' hp => ⟨none, 0, (by rw [e1, e2]; try rfl), hp.below, by rw [e2]; exact Res.nil⟩)
  · have h17b := h17
    try simp only [sxb] at h17
    have h0 : askE s g = 0 := by simpa using h17
    obtain ⟨e2, e3, hb, hg0, hgl, hm64⟩ := ask_0 h0
    have hok := StrOk.of hb
    have hnr := hok.nr
    have hng := hok.ng
    have hns := hok.ns
    obtain ⟨n, hn⟩ : ∃ n : Nat, g = n := ⟨g.toNat, by omega⟩
    subst hn
    rw [Int.toNat_natCast] at hm64 hgl
    refine cj_skip (ej_th (cj_seq (cj_seq ?_)))
    refine cj_regionG ?_
    refine gj_step (y_move rfl) rfl rfl rfl (gj_step (y_fa0 fa26_0 rfl) rfl rfl rfl (gj_step (y_load1 Try.isAgg22 rfl rfl) rfl rfl rfl (gj_step (y_lenA Try.underlying22 rfl) rfl rfl rfl (gj_step (y_sub rfl rfl (by omega)) rfl rfl rfl (?_)))))
    refine gj_step (y_call Try.call27 rfl (fun w hp => k_From _ _ _ w)) rfl rfl rfl ?_
    refine gj_step (y_not rfl) rfl rfl rfl (?_)
    refine gj_nil ?_
    refine ej_th ?_
    refine cj_cond rfl (fun h25 => ?_) (fun h25 => ?_)
    · have h25b := h25
      try simp only [sxb] at h25
      obtain ⟨e1, e2⟩ := way_7 h0 (not_t h25b)
      refine cj_seq ?_
      refine cj_regionG (gj_step (y_assign rfl) rfl rfl rfl (gj_step (y_assign rfl) rfl rfl rfl (gj_nil ?_)))
      refine ej_th (cj_ret (ej_then_ret ?_))
      exact ej_ret2 rfl Try.results36 rfl rfl (fun w' hp => ⟨none, 0, (by rw [e1, e2]; try rfl), hp.below, by rw [e2]; exact Res.nil⟩)
    · have h25b := h25
      try simp only [sxb] at h25
      have hrb := btw_t.1 (not_f h25b)
      obtain ⟨m, hm⟩ : ∃ m : Nat, room = m := ⟨room.toNat, by omega⟩
      subst hm
      refine cj_skip (ej_th (cj_seq (cj_region ?_)))
      refine oj_step (y_loadN Try.isAgg26 Try.sizeOf26 rfl) rfl rfl rfl ?_
      refine oj_step (y_move rfl) rfl rfl rfl ?_
      refine oj_step (y_move rfl) rfl rfl rfl ?_
      refine oj_step (y_build (cs := [.slice s.Ar s.rooms.length s.cr, .slice s.Ag s.gates.length s.cg, .slice s.As s.staff.length s.cs, .int .i64 (n : Nat), .int .i64 (m : Nat)]) st102 rfl (by kernel_rfl)) rfl rfl rfl ?_
      refine oj_alloc Try.zeroValue102 rfl rfl (fun b9 => ?_)
      refine oj_store rfl rfl rfl rfl Try.sizeOf102 rfl ?_
      refine oj_nil ?_
      refine ej_th (cj_seq (cj_seq ?_))
      refine cj_regionG (gj_step (y_assign rfl) rfl rfl rfl (gj_nil ?_))
      refine ej_th (cj_block ?_)
      refine cj_lpic (X := Nat) [(3, _), (9, _)] (fun k => k ≤ s.rooms.length ∧ ∀ j, j < k → dfs s.s n m j 1 = none) (fun k => [(10, .int .i64 (k : Nat))]) (fun k => s.rooms.length - k) 0 (⟨Nat.zero_le _, fun j h => absurd h (Nat.not_lt_zero _)⟩) ⟨rfl, rfl, rfl, trivial⟩ ?_
      rintro k ⟨hk, hno⟩
      dsimp only [List.cons_append, List.nil_append]
      refine cj_seq (cj_seq ?_)
      refine cj_regionG (gj_step (y_move rfl) rfl rfl rfl (gj_step (y_fa0 fa26_0 rfl) rfl rfl rfl (gj_step (y_load1 Try.isAgg22 rfl rfl) rfl rfl rfl (gj_step (y_lenA Try.underlying22 rfl) rfl rfl rfl (gj_step (y_lss rfl rfl) rfl rfl rfl (gj_nil ?_))))))
      refine ej_th ?_
      refine cj_cond rfl (fun h34 => ?_) (fun h34 => ?_)
      · have h34b := h34
        try simp only [sxb] at h34
        refine cj_skip (ej_th (cj_seq (cj_block (cj_seq (cj_region ?_)))))
        refine oj_step (y_loadN Try.isAgg102 Try.sizeOf102 rfl) rfl rfl rfl ?_
        refine oj_step (y_move rfl) rfl rfl rfl ?_
        refine oj_callR (X := { z : (Option Addr × Nat × List Nat × Nat × Nat) // w.heap.size ≤ z.2.2.2.1 ∧ ∀ l', dfs s.s n m k 1 = some l' → z.2.2.1 = [] ++ l' }) (fun z => .tuple #[.slice z.1.1 (intsL z.1.2.2.1).length z.1.2.1, .bool (dfs s.s n m k 1).isSome]) (fun z => [sl (fun b => False ∨ (z.1.2.2.2.1 ≤ b ∧ b < z.1.2.2.2.2)) 1 enInt z.1.1 (intsL z.1.2.2.1)]) Try.call70 rfl (fun w1 hp => by
          have h9 := k_rway s n m hb hm64 (by omega) k 1 [] none 0 (fun _ => False) w1 (hs.mono hp.below) ⟨Nat.zero_le _, fun h => absurd rfl h⟩ (fun b h => h.elim) (one_lt hb) (by simp; omega)
          exact h9.mono fun e w2 ⟨x, he, hg, hP, hl'⟩ => ⟨⟨(x.1, x.2.1, x.2.2, w1.heap.size, w2.heap.size), hp.size, hl'⟩, he, hg, fun f hf => by
            rw [List.mem_singleton.1 hf]
            exact ⟨hP, fun b hb => hb.elim (fun h => h.elim) (fun h => .inr h)⟩⟩) rfl ?_
        rintro ⟨⟨A40, c40, l40, n1, n2⟩, hn1, hl40⟩
        dsimp only [List.cons_append, List.nil_append] at hn1 hl40 ⊢
        refine oj_step (y_move rfl) rfl rfl rfl ?_
        refine oj_step (y_extract rfl rfl) rfl rfl rfl ?_
        refine oj_step (y_extract rfl rfl) rfl rfl rfl ?_
        refine oj_step (y_assign rfl) rfl rfl rfl ?_
        refine oj_step (y_assign rfl) rfl rfl rfl ?_
        refine oj_nil ?_
        refine ej_th (cj_seq ?_)
        refine cj_regionG (gj_step (y_move rfl) rfl rfl rfl (gj_nil ?_))
        refine ej_th ?_
        refine cj_cond rfl (fun h43 => ?_) (fun h43 => ?_)
        · have h43b := h43
          try simp only [sxb] at h43
          obtain ⟨l2, hl2⟩ := Option.isSome_iff_exists.1 h43b
          have hle := hl40 l2 hl2
          obtain ⟨e1, e2⟩ := way_0 (l := l2) h0 (not_f h25b) (by rw [Int.toNat_natCast, Int.toNat_natCast]; exact wayV_at (by omega) hno hl2)
          refine cj_seq ?_
          refine cj_regionG (gj_step (y_move rfl) rfl rfl rfl (gj_step (y_assign rfl) rfl rfl rfl (gj_step (y_assign rfl) rfl rfl rfl (gj_nil ?_))))
          refine ej_th (cj_ret (ej_blk_ret (ej_then_ret (ej_then_ret (ej_blk_ret (ej_then_ret ?_))))))
          exact ej_ret2 rfl Try.results36 rfl rfl (fun w' hp => ⟨A40, c40, (by rw [e1, e2, hle]; try rfl), hp.below, by rw [e2, show l2 = l40 from hle.symm]; exact sl_fp (hp.shared _ (.head _)).1 (fun b h => ⟨h.elim (fun h => h.elim) (fun h => Nat.le_trans hn1 h.1), (hp.shared _ (.head _)).2.1 b h⟩)⟩)
        · have h43b := h43
          try simp only [sxb] at h43
          rw [Option.isSome_eq_false_iff, Option.isNone_iff_eq_none] at h43b
          refine cj_skip (ej_blk (ej_th ?_))
          refine cj_regionG (gj_step (y_move rfl) rfl rfl rfl (gj_step (y_add rfl rfl (by omega)) rfl rfl rfl (gj_step (y_assign rfl) rfl rfl rfl (gj_nil ?_))))
          refine ej_nx (k + 1) (by omega) ⟨by omega, fun j hj => ?_⟩ ⟨rfl, rfl, rfl, trivial⟩
          by_cases e : j < k
          · exact hno j e
          · have e2 : j = k := by omega
            subst e2; exact h43b
      · have h34b := h34
        try simp only [sxb] at h34
        obtain ⟨e1, e2⟩ := way_4 h0 (not_f h25b) (by rw [Int.toNat_natCast, Int.toNat_natCast]; exact wayV_no (fun j hj => hno j (by omega)))
        refine cj_exit (ej_then_exit (ej_then_exit (ej_blk_hit (ej_th (cj_seq ?_)))))
        refine cj_regionG (gj_step (y_assign rfl) rfl rfl rfl (gj_step (y_assign rfl) rfl rfl rfl (gj_nil ?_)))
        refine ej_th (cj_ret ?_)
        exact ej_ret2 rfl Try.results36 rfl rfl (fun w' hp => ⟨none, 0, (by rw [e1, e2]; try rfl), hp.below, by rw [e2]; exact Res.nil⟩)

end Go.Proofs.Ytomidcehahdmbaa
namespace Go.Sx
open Go.RowKit
section
variable {C : Cx} {L : Regs} {O S : List Fact} {ty : TypeId} {pos : String} {aft : Array Edge} {dst : Option Tmp} {gu : Option (Nat × Bool)} {t t' : TypeId} {x y : Operand}
def orZ (a b : Int) : Int := IntKind.i64.wrap ((BitVec.ofInt 64 a ||| BitVec.ofInt 64 b).toNat : Int)
def andZ (a : Int) (c : Nat) : Nat := (BitVec.ofInt 64 a &&& BitVec.ofInt 64 (c : Int)).toNat
theorem bv_wrap (z : Int) : BitVec.ofInt 64 (IntKind.i64.wrap z) = BitVec.ofInt 64 z := by
  rw [IntKind.wrap_i64]
  apply BitVec.eq_of_toNat_eq
  rw [BitVec.toNat_ofInt, BitVec.toNat_ofInt]
  omega
theorem bv_nat (m : Nat) : BitVec.ofInt 64 (m : Int) = BitVec.ofNat 64 m := BitVec.ofInt_natCast ..
theorem and_bit {a : Int} {c i : Nat} (hc : c < 2 ^ 62) : (andZ a c).testBit i = ((BitVec.ofInt 64 a).getLsbD i && c.testBit i) := by
  unfold andZ
  rw [BitVec.testBit_toNat, BitVec.getLsbD_and]
  congr 1
  rw [← BitVec.testBit_toNat, nat_bv c (by omega)]
theorem and_le {a : Int} {c : Nat} (hc : c < 2 ^ 62) : andZ a c ≤ c := by
  have e : andZ a c &&& c = andZ a c := Nat.eq_of_testBit_eq fun i => by
    rw [Nat.testBit_and, and_bit hc]
    cases (BitVec.ofInt 64 a).getLsbD i <;> cases c.testBit i <;> rfl
  rw [← e]; exact Nat.and_le_right
theorem and_or {p c i : Nat} {n : Int} (hp : p < 2 ^ 62) (hc : c < 2 ^ 62) (h : p.testBit i = true) (h2 : c.testBit i = true) : (andZ (orZ p n) c).testBit i = true := by
  rw [and_bit hc, h2, Bool.and_true, orZ, bv_wrap, bv_nat, BitVec.ofNat_toNat, BitVec.setWidth_eq, BitVec.getLsbD_or, ← BitVec.testBit_toNat, nat_bv p (by omega), h, Bool.true_or]
theorem y_orZ {m n : Int} (hx : val L x = some (.int .i64 m)) (hy : val L y = some (.int .i64 n)) : Yi C ⟨dst, .binOp .or t x y t', ty, pos, aft, gu⟩ L O S (.int .i64 (orZ m n)) :=
  yi_val (by intro c h; cases h) fun a w hr _ => by
    have e : binOp .or t (.int .i64 m) (.int .i64 n) = pure (.int .i64 (orZ m n)) := by
      unfold binOp
      simp only [ne_eq, not_true_eq_false, if_false]
      rfl
    simp [execOp, hr.val hx, hr.val hy, eqGuard, e]
theorem y_andZ {m : Int} {c : Nat} (hx : val L x = some (.int .i64 m)) (hy : val L y = some (.int .i64 (c : Nat))) (hc : c < 2 ^ 62) : Yi C ⟨dst, .binOp .and t x y t', ty, pos, aft, gu⟩ L O S (.int .i64 ((andZ m c : Nat) : Int)) :=
  yi_val (by intro c h; cases h) fun a w hr _ => by
    have h1 : IntKind.i64.wrap ((andZ m c : Nat) : Int) = ((andZ m c : Nat) : Int) := IntWalk.i64_in _ (by have := and_le (a := m) hc; omega)
    have e : binOp .and t (.int .i64 m) (.int .i64 (c : Int)) = pure (.int .i64 ((andZ m c : Nat) : Int)) := by
      unfold binOp
      simp only [ne_eq, not_true_eq_false, if_false]
      exact congrArg (fun z => (pure (Value.int .i64 z) : Sem Value)) h1
    simp [execOp, hr.val hx, hr.val hy, eqGuard, e]
/-- An element of a slice whose length is known in other words. -/
theorem y_ixRm {α : Type} {m s e n c sz : Nat} {A : Option Addr} {i : Int} {k : IntKind} {enc : α → List Value} {xs : List α} (hm : m = xs.length) (hr0 : Reads C O S sz enc A xs) (hu : C.P.underlying s = some (.slice e)) (hs : ∀ w, (sizeOf e).run C.P w = .ok n w) (hx : val L x = some (.slice A m c)) (hy : val L y = some (.int k i)) (hi : 0 ≤ i ∧ i < m) :
    Yi C ⟨dst, .indexAddr s x y, ty, pos, aft, gu⟩ L O S (.pointer (some (at_ A (i.toNat * n)))) := by
  subst hm
  exact y_ixR hr0 hu hs hx hy hi
end
end Go.Sx
namespace Go.Proofs.Ytomidcehahdmbaa
open Go Go.Sx Go.RowKit Vm
theorem all_sub {n k : Nat} (h : n < 2 ^ k) : Sub n (2 ^ k - 1) := fun i hi => by
  rw [Nat.testBit_two_pow_sub_one, decide_eq_true_iff]
  refine Decidable.byContradiction fun h2 => ?_
  rw [Nat.testBit_lt_two_pow (Nat.lt_of_lt_of_le h (Nat.pow_le_pow_right (by decide) (by omega)))] at hi
  cases hi
/-- A set, more, within all. -/
theorem more_and {p k : Nat} (n : Int) (hp : p < 2 ^ k) (hk : k ≤ 8) : Sub p (andZ (orZ p n) (2 ^ k - 1)) ∧ andZ (orZ p n) (2 ^ k - 1) < 2 ^ k := by
  have h8 : 2 ^ k ≤ 256 := Nat.pow_le_pow_right (n := 2) (by decide) hk
  have h0 := Nat.two_pow_pos k
  refine ⟨fun i hi => and_or (by omega) (by omega) hi (all_sub hp i hi), ?_⟩
  have := and_le (a := orZ p n) (c := 2 ^ k - 1) (by omega)
  omega
def moreS (n : Int) (x : Int) : Int := (andZ (orZ x n) 255 : Nat)
theorem moreS_ok (n : Int) {x : Int} (h : 0 ≤ x ∧ x ≤ 255) : 0 ≤ moreS n x ∧ moreS n x ≤ 255 ∧ Sub x.toNat (moreS n x).toNat := by
  obtain ⟨m, rfl⟩ : ∃ m : Nat, x = m := ⟨x.toNat, by omega⟩
  obtain ⟨h1, h2⟩ := more_and (p := m) (k := 8) n (by omega) (by decide)
  have e : (2 ^ 8 - 1 : Nat) = 255 := rfl
  rw [e] at h1 h2
  unfold moreS
  rw [Int.toNat_natCast, Int.toNat_natCast]
  exact ⟨by omega, by omega, h1⟩
/-- The staff, some with more keys. -/
abbrev moreL (n : Int) (l : List Int) (k : Nat) : List Int := (l.take k).map (moreS n) ++ l.drop k
theorem moreL_len (n : Int) (l : List Int) (k : Nat) : (moreL n l k).length = l.length := by
  simp only [moreL, List.length_append, List.length_map, List.length_take, List.length_drop]; omega
theorem moreL_0 (n : Int) (l : List Int) : moreL n l 0 = l := by simp [moreL]
theorem moreL_at {n : Int} {l : List Int} {k : Nat} (hk : k < l.length) : (moreL n l k)[k]? = l[k]? := by
  rw [moreL, List.getElem?_append_right (by rw [List.length_map, List.length_take]; omega), List.length_map, List.length_take, List.getElem?_drop]
  congr 1; omega
theorem moreL_set {n : Int} {l : List Int} {k : Nat} {x : Int} (h : l[k]? = some x) : (moreL n l k).set k (moreS n x) = moreL n l (k + 1) := by
  have hk := (List.getElem?_eq_some_iff.1 h).1
  rw [moreL, moreL, List.set_append, if_neg (by rw [List.length_map, List.length_take]; omega), List.length_map, List.length_take, Nat.min_eq_left (by omega), Nat.sub_self, get_drop h, List.set_cons_zero, List.take_add_one, h, Option.toList_some, List.map_append, List.append_assoc]; rfl
theorem moreL_end (n : Int) (l : List Int) : moreL n l l.length = l.map (moreS n) := by simp [moreL]
/-- The strongroom with more keys. -/
def moreStr (s : StrV) (A : Option Addr) (c : Nat) (n : Int) : StrV := ⟨s.Ar, s.cr, s.rooms, s.Ag, s.cg, s.gates, A, c, s.staff.map (moreS n)⟩
theorem moreStr_ok {s : StrV} (h : strB s.s = true) (A : Option Addr) (c : Nat) (n : Int) : strB (moreStr s A c n).s = true ∧ More s.s (moreStr s A c n).s := by
  have hst : ∀ x ∈ s.staff, 0 ≤ x ∧ x ≤ 255 := fun x hx => by
    unfold strB at h
    simp only [Bool.and_eq_true] at h
    exact btw_t.1 (List.all_eq_true.1 h.1.2 x hx)
  refine ⟨?_, ⟨rfl, rfl, fun t k hk => ?_⟩⟩
  · unfold strB at h ⊢
    simp only [Bool.and_eq_true] at h ⊢
    refine ⟨⟨⟨⟨⟨h.1.1.1.1.1, h.1.1.1.1.2⟩, ?_⟩, h.1.1.2⟩, ?_⟩, h.2⟩
    · have := h.1.1.1.2
      show btw 2 ((s.staff.map (moreS n)).length : Nat) 6 = true
      rw [List.length_map]; exact this
    · show (s.staff.map (moreS n)).all _ = true
      rw [List.all_map, List.all_eq_true]
      intro x hx
      have := moreS_ok n (hst x hx)
      exact btw_t.2 ⟨this.1, this.2.1⟩
  · refine ⟨moreS n k, ?_, (moreS_ok n (hst k (List.mem_of_getElem? hk))).2.2⟩
    show (s.staff.map (moreS n))[t]? = _
    rw [List.getElem?_map]
    have : s.staff[t]? = some k := hk
    rw [this]; rfl
end Go.Proofs.Ytomidcehahdmbaa
namespace Go.Proofs.Ytomidcehahdmbaa
open Go.Sx Go.RowKit
set_option maxRecDepth 20000

end Go.Proofs.Ytomidcehahdmbaa
namespace Go.Proofs.Ytomidcehahdmbaa
open Go.Sx Go.RowKit Vm
set_option maxRecDepth 20000
theorem k_EnterM (s : StrV) (B : Option Addr) (c k : Nat) (n2 g : Int) (w : World) (hs : StrRd w (moreStr s B c n2)) (hk : k = (s.staff.map (moreS n2)).length) : Calls Try.prog 13 #[.agg #[.slice s.Ar s.rooms.length s.cr, .slice s.Ag s.gates.length s.cg, .slice B k c], .int .i64 g] w (fun e w' => e = .returned (.tuple #[.int .i64 (EntV (moreStr s B c n2) g), .int .i64 (askE (moreStr s B c n2) g)]) ∧ Grow w w') := by
  subst hk
  exact k_Enter (moreStr s B c n2) g w hs
theorem k_inI (a : Nat) (b : Int) (w : World) (ha : a ≤ 9223372036854775807) (h0 : 0 ≤ b) (hb : b ≤ 9223372036854775807) : Calls Try.prog 25 #[.int .i64 (a : Nat), .int .i64 b] w (fun e w' => e = .returned (.bool (hasN b.toNat a)) ∧ Grow w w') := by
  obtain ⟨m, rfl⟩ : ∃ m : Nat, b = m := ⟨b.toNat, by omega⟩
  have h := k_inS a m w ha (by omega)
  rw [Int.toNat_natCast]
  exact h
theorem cls_t {s : StrV} {g r : Int} (h : clsV s g r = true) : clsE s g r = 0 ∧ 0 ≤ r ∧ r ≤ 64 ∧ closedN s.s g.toNat r.toNat = true := by
  unfold clsV at h
  by_cases h1 : clsE s g r = 0
  · rw [if_pos h1] at h
    refine ⟨h1, ?_⟩
    unfold clsE at h1
    by_cases h2 : askE s g = 0
    · rw [if_pos h2] at h1
      by_cases h3 : btw 0 r ((2 ^ s.rooms.length : Nat) - 1) = true
      · have h4 := btw_t.1 h3
        have h5 := (ask_0 h2).2.2.1
        have h6 : 2 ^ s.rooms.length ≤ 64 := pow_le64 (StrOk.of h5).nr.2
        exact ⟨h4.1, by omega, h⟩
      · rw [if_neg h3] at h1; exact absurd h1 (by decide)
    · rw [if_neg h2] at h1; exact absurd h1 h2
  · rw [if_neg h1] at h; cases h

set_option maxHeartbeats 3200000 in
theorem k_VaultLeast (s : StrV) (g n0 n1 n2 : Int) (w : World) (hs : StrRd w s) : Calls Try.prog 5 #[.agg #[.slice s.Ar s.rooms.length s.cr, .slice s.Ag s.gates.length s.cg, .slice s.As s.staff.length s.cs], .int .i64 g, .agg #[.int .i64 n0, .int .i64 n1, .int .i64 n2]] w (fun e w' => e = .returned (.bool true) ∧ Grow w w') := by
  refine enter_pure (args := [.agg #[.slice s.Ar s.rooms.length s.cr, .slice s.Ag s.gates.length s.cg, .slice s.As s.staff.length s.cs], .int .i64 g, .agg #[.int .i64 n0, .int .i64 n1, .int .i64 n2]]) [sl (fun b => b < w.heap.size) 3 encRo s.Ar s.rooms, sl (fun b => b < w.heap.size) 4 encGa s.Ag s.gates, sl (fun b => b < w.heap.size) 1 enInt s.As s.staff] Try.func5 rfl (by rw [Try.ntmps5]; simp) (fun g hg => by simp at hg; rcases hg with rfl | rfl | rfl; exact ⟨hs.rooms, fun _ h => h⟩; exact ⟨hs.gates, fun _ h => h⟩; exact ⟨hs.staff, fun _ h => h⟩) ?_
  refine cj_seq (cj_region ?_)
  refine oj_box rfl rfl rfl (fun b3 => ?_)
  refine oj_box rfl rfl rfl (fun b5 => ?_)
  refine oj_step (y_assign rfl) rfl rfl rfl ?_
  refine oj_nil ?_
  refine ej_th (cj_seq ?_)
  refine cj_regionG ?_
  refine gj_step (y_loadN Try.isAgg26 Try.sizeOf26 rfl) rfl rfl rfl (gj_step (y_move rfl) rfl rfl rfl (?_))
  refine gj_step (y_call Try.call13 rfl (fun w hp => k_Enter s g w (hs.mono hp.below))) rfl rfl rfl ?_
  refine gj_step (y_move rfl) rfl rfl rfl (gj_step (y_extract rfl rfl) rfl rfl rfl (gj_step (y_extract rfl rfl) rfl rfl rfl (gj_step (y_assign rfl) rfl rfl rfl (gj_step (y_assign rfl) rfl rfl rfl (?_)))))
  refine gj_nil ?_
  refine ej_th (cj_seq (cj_seq ?_))
  refine cj_regionG (gj_step (y_move rfl) rfl rfl rfl (gj_step (y_neq rfl rfl) rfl rfl rfl (gj_nil ?_)))
  refine ej_th ?_
  refine cj_cond rfl (fun h24 => ?_) (fun h24 => ?_)
  · have h24b := h24
    try simp only [sxb] at h24
    have hV : EntV s g = 0 := by rw [EntV, if_neg h24]
    refine cj_seq ?_
    refine cj_regionG ?_
    refine gj_step (y_move rfl) rfl rfl rfl (gj_step (y_eql rfl rfl) rfl rfl rfl (gj_step (y_move rfl) rfl rfl rfl (?_)))
    refine gj_g 1 27 28 rfl rfl rfl rfl (fun hg27 => gj_yes rfl rfl rfl (y_call Try.call19 rfl (fun w hp => k_works w)) rfl rfl (gj_nil rfl)) ?_
    refine gj_step (y_and rfl rfl rfl) rfl rfl rfl (gj_step (y_assign rfl) rfl rfl rfl (?_))
    refine gj_nil ?_
    refine ej_th (cj_ret (ej_then_ret ?_))
    exact ej_ret1 rfl Try.results5 rfl (fun w' hp => ⟨by simp [hV], hp.below⟩)
  · have h24b := h24
    try simp only [sxb] at h24
    have h1 : askE s g = 0 := by simpa using h24
    obtain ⟨_, _, hb, hg0, hgl, hg64⟩ := ask_0 h1
    obtain ⟨q, hq⟩ : ∃ q : Nat, g = q := ⟨g.toNat, by omega⟩
    subst hq
    rw [Int.toNat_natCast] at hgl hg64
    have hEV : EntV s q = (reachV s.s q : Nat) := by rw [EntV, if_pos h1]; rfl
    rw [hEV]
    have hok := StrOk.of hb
    have hnr := hok.nr
    have hng := hok.ng
    have hns := hok.ns
    have hst := staff_le hb
    have hst2 : 2 ^ s.staff.length ≤ 64 := hst
    have hsp := Nat.two_pow_pos s.staff.length
    have hst0 : 2 ^ s.s.staff.length = allN s.s + 1 := by unfold allN; have := Nat.two_pow_pos s.s.staff.length; omega
    have hal : allN s.s < 64 := by omega
    have hrlt := reachV_lt hb q
    have h64r : 2 ^ s.s.rooms.length ≤ 64 := pow_le64 hnr.2
    have hc1 : clsE s q (reachV s.s q : Nat) = 0 := by rw [clsE, if_pos h1, if_pos (btw_t.2 (by have h9 : reachV s.s q < 2 ^ s.rooms.length := hrlt; omega))]
    have hc2 : clsV s q (reachV s.s q : Nat) = true := by rw [clsV, if_pos hc1]; exact reach_closed hb q
    have hc3 : clsV s q n0 = true → hasN n0.toNat (reachV s.s q) = true := fun h => hasN_iff.2 (reach_least (More.refl _) (Sub.refl q) (cls_t h).2.2.2)
    have hc4 : clsE s q n0 = 0 ∨ clsE s q n0 = 7 := by
      rw [clsE, if_pos h1]
      split <;> simp
    refine cj_skip (ej_th (cj_seq ?_))
    refine cj_regionG ?_
    refine gj_step (y_loadN Try.isAgg26 Try.sizeOf26 rfl) rfl rfl rfl (gj_step (y_move rfl) rfl rfl rfl (gj_step (y_move rfl) rfl rfl rfl (?_)))
    refine gj_step (y_call Try.call17 rfl (fun w hp => k_Closed s q (reachV s.s q : Nat) w (hs.mono hp.below))) rfl rfl rfl ?_
    refine gj_step (y_move rfl) rfl rfl rfl (gj_step (y_extract rfl rfl) rfl rfl rfl (gj_step (y_extract rfl rfl) rfl rfl rfl (gj_step (y_assign rfl) rfl rfl rfl (gj_step (y_assign rfl) rfl rfl rfl (?_)))))
    refine gj_nil ?_
    refine ej_th (cj_seq ?_)
    refine cj_regionG ?_
    refine gj_step (y_loadN Try.isAgg26 Try.sizeOf26 rfl) rfl rfl rfl (gj_step (y_move rfl) rfl rfl rfl (gj_step (y_ixArrC 0 Try.underlying39 Try.sizeOf3 rfl rfl (by decide) (by decide)) rfl rfl rfl (gj_step (y_load1 Try.isAgg3 rfl rfl) rfl rfl rfl (?_))))
    refine gj_step (y_call Try.call17 rfl (fun w hp => k_Closed s q n0 w (hs.mono hp.below))) rfl rfl rfl ?_
    refine gj_step (y_move rfl) rfl rfl rfl (gj_step (y_extract rfl rfl) rfl rfl rfl (gj_step (y_extract rfl rfl) rfl rfl rfl (gj_step (y_assign rfl) rfl rfl rfl (gj_step (y_assign rfl) rfl rfl rfl (?_)))))
    refine gj_nil ?_
    refine ej_th (cj_seq (cj_seq ?_))
    rw [hc1, hc2]
    refine cj_regionG ?_
    refine gj_step (y_move rfl) rfl rfl rfl (gj_step (y_not rfl) rfl rfl rfl (gj_step (y_move rfl) rfl rfl rfl (?_)))
    refine gj_g 2 47 49 rfl rfl rfl rfl (fun hg47 => gj_yes rfl rfl rfl (y_move rfl) rfl rfl (gj_yes rfl rfl rfl (y_neq rfl rfl) rfl rfl (gj_nil rfl))) ?_
    refine gj_step (y_or rfl rfl rfl) rfl rfl rfl (gj_step (y_move rfl) rfl rfl rfl (?_))
    refine gj_g 8 51 59 rfl rfl rfl rfl (fun hg51 => gj_yes rfl rfl rfl (y_move rfl) rfl rfl (gj_yes rfl rfl rfl (y_move rfl) rfl rfl (gj_g 5 53 58 rfl rfl rfl rfl (fun hg53 => gj_yes rfl rfl rfl (y_move rfl) rfl rfl (gj_yes rfl rfl rfl (y_ixArrC 0 Try.underlying39 Try.sizeOf3 rfl rfl (by decide) (by decide)) rfl rfl (gj_yes rfl rfl rfl (y_load1 Try.isAgg3 rfl rfl) rfl rfl (gj_yes rfl rfl rfl (y_call Try.call25 rfl (fun w hp => k_inI (reachV s.s q) n0 w (by omega) (cls_t hg53).2.1 (by have h9 := (cls_t hg53).2.2.1; omega))) rfl rfl (gj_yes rfl rfl rfl (y_not rfl) rfl rfl (gj_nil rfl)))))) (gj_yes rfl rfl rfl (y_and rfl rfl rfl) rfl rfl (gj_nil rfl))))) ?_
    refine gj_step (y_or rfl rfl rfl) rfl rfl rfl (gj_step (y_move rfl) rfl rfl rfl (?_))
    refine gj_g 6 61 67 rfl rfl rfl rfl (fun hg61 => gj_yes rfl rfl rfl (y_move rfl) rfl rfl (gj_yes rfl rfl rfl (y_neq rfl rfl) rfl rfl (gj_yes rfl rfl rfl (y_move rfl) rfl rfl (gj_g 2 64 66 rfl rfl rfl rfl (fun hg64 => gj_yes rfl rfl rfl (y_move rfl) rfl rfl (gj_yes rfl rfl rfl (y_neq rfl rfl) rfl rfl (gj_nil rfl))) (gj_yes rfl rfl rfl (y_and rfl rfl rfl) rfl rfl (gj_nil rfl)))))) ?_
    refine gj_step (y_or rfl rfl rfl) rfl rfl rfl (?_)
    refine gj_nil ?_
    refine ej_th ?_
    refine cj_cond rfl (fun h68 => ?_) (fun h68 => ?_)
    · rcases hc4 with h9 | h9 <;> cases h10 : clsV s q n0 <;> simp [h9, h10, hc3] at h68
    · have h68b := h68
      try simp only [sxb] at h68
      refine cj_skip (ej_th (cj_seq ?_))
      refine cj_regionG (gj_step (y_fa fa26_2 rfl) rfl rfl rfl (gj_step (y_load1 Try.isAgg24 rfl rfl) rfl rfl rfl (gj_step (y_lenA Try.underlying24 rfl) rfl rfl rfl (gj_step (y_minR rfl rfl (by omega)) rfl rfl rfl (gj_step (y_shl1 rfl rfl (by omega)) rfl rfl rfl (gj_step (y_sub rfl rfl (by omega)) rfl rfl rfl (gj_step (y_assign rfl) rfl rfl rfl (gj_nil ?_))))))))
      refine ej_th (cj_seq ?_)
      rw [show (((2 ^ s.staff.length : Nat) : Int) - 1) = ((allN s.s : Nat) : Int) by unfold allN; show (((2 ^ s.staff.length : Nat) : Int) - 1) = ((2 ^ s.staff.length - 1 : Nat) : Int); omega]
      refine cj_regionG ?_
      refine gj_step (y_loadN Try.isAgg26 Try.sizeOf26 rfl) rfl rfl rfl (gj_step (y_move rfl) rfl rfl rfl (gj_step (y_ixArrC 1 Try.underlying39 Try.sizeOf3 rfl rfl (by decide) (by decide)) rfl rfl rfl (gj_step (y_load1 Try.isAgg3 rfl rfl) rfl rfl rfl (gj_step (y_orZ rfl rfl) rfl rfl rfl (gj_step (y_move rfl) rfl rfl rfl (gj_step (y_andZ rfl rfl (by omega)) rfl rfl rfl (?_)))))))
      refine gj_step (y_call Try.call13 rfl (fun w hp => k_Enter s ((andZ (orZ (q : Nat) n1) (allN s.s)) : Nat) w (hs.mono hp.below))) rfl rfl rfl ?_
      refine gj_step (y_move rfl) rfl rfl rfl (gj_step (y_extract rfl rfl) rfl rfl rfl (gj_step (y_extract rfl rfl) rfl rfl rfl (gj_step (y_assign rfl) rfl rfl rfl (gj_step (y_assign rfl) rfl rfl rfl (?_)))))
      refine gj_nil ?_
      refine ej_th (cj_seq ?_)
      obtain ⟨hm1, hm2⟩ := more_and (p := q) (k := s.staff.length) n1 hgl (by omega)
      change Sub q (andZ (orZ (q : Nat) n1) (allN s.s)) at hm1
      change (andZ (orZ (q : Nat) n1) (allN s.s)) < 2 ^ s.staff.length at hm2
      have hq1 : askE s (((andZ (orZ (q : Nat) n1) (allN s.s)) : Nat) : Int) = 0 := by rw [askE, if_pos hb, if_pos (btw_t.2 (by omega))]
      have hq2 : EntV s (((andZ (orZ (q : Nat) n1) (allN s.s)) : Nat) : Int) = (reachV s.s (andZ (orZ (q : Nat) n1) (allN s.s)) : Nat) := by rw [EntV, if_pos hq1]; rfl
      rw [hq1, hq2]
      have hrm := reachV_lt hb (andZ (orZ (q : Nat) n1) (allN s.s))
      have hin1 : hasN (reachV s.s (andZ (orZ (q : Nat) n1) (allN s.s))) (reachV s.s q) = true := hasN_iff.2 (reach_mono hb (More.refl _) hm1)
      refine cj_region ?_
      refine oj_step (y_loadN Try.isAgg26 Try.sizeOf26 rfl) rfl rfl rfl ?_
      refine oj_alloc Try.zeroValue26 rfl rfl (fun b14 => ?_)
      refine oj_store rfl rfl rfl rfl Try.sizeOf26 rfl ?_
      refine oj_nil ?_
      refine ej_th (cj_seq (cj_region ?_))
      refine oj_step (y_fa fa26_2 rfl) rfl rfl rfl ?_
      refine oj_step (y_load1 Try.isAgg24 rfl rfl) rfl rfl rfl ?_
      refine oj_callO (fun B d => .slice B s.staff.length d) 3 1 enInt s.staff Try.call26 rfl (fun w hp => k_Own s.staff s.As s.cs w hp.rd (by omega)) rfl (fun B89 c89 => ?_)
      refine oj_step (y_fa fa26_2 rfl) rfl rfl rfl ?_
      refine oj_store rfl rfl rfl rfl Try.sizeOf24 rfl ?_
      refine oj_nil ?_
      refine ej_th (cj_seq (cj_seq ?_))
      refine cj_regionG (gj_step (y_assign rfl) rfl rfl rfl (gj_nil ?_))
      refine ej_th (cj_block ?_)
      refine cj_eqO [ow 3 1 enInt B89 c89 (moreL n2 s.staff 0), ownB b14 (cellsB 26 [.slice s.Ar s.rooms.length s.cr, .slice s.Ag s.gates.length s.cg, .slice B89 s.staff.length c89]), ownB b5 (cellsB 39 [.int .i64 n0, .int .i64 n1, .int .i64 n2]), ownB b3 (cellsB 26 [.slice s.Ar s.rooms.length s.cr, .slice s.Ag s.gates.length s.cg, .slice s.As s.staff.length s.cs])] (by rw [moreL_0]) ?_
      refine cj_lpi (X := Nat) [(1, _), (5, _), (6, _), (7, _), (8, _), (11, _), (13, _), (14, _)] (fun i => i ≤ s.staff.length) (fun i => [(15, .int .i64 (i : Nat))]) (fun i => [ow 3 1 enInt B89 c89 (moreL n2 s.staff i), ownB b14 (cellsB 26 [.slice s.Ar s.rooms.length s.cr, .slice s.Ag s.gates.length s.cg, .slice B89 s.staff.length c89]), ownB b5 (cellsB 39 [.int .i64 n0, .int .i64 n1, .int .i64 n2]), ownB b3 (cellsB 26 [.slice s.Ar s.rooms.length s.cr, .slice s.Ag s.gates.length s.cg, .slice s.As s.staff.length s.cs])]) (fun i => [sl (fun b => b < w.heap.size) 3 encRo s.Ar s.rooms, sl (fun b => b < w.heap.size) 4 encGa s.Ag s.gates, sl (fun b => b < w.heap.size) 1 enInt s.As s.staff]) (fun i => s.staff.length - i) 0 (Nat.zero_le _) ⟨rfl, rfl, rfl, rfl, rfl, rfl, rfl, rfl, rfl, trivial⟩ ?_
      rintro i hi
      dsimp only [List.cons_append, List.nil_append]
      refine cj_seq (cj_seq ?_)
      refine cj_regionG (gj_step (y_move rfl) rfl rfl rfl (gj_step (y_fa fa26_2 rfl) rfl rfl rfl (gj_step (y_load1 Try.isAgg24 rfl rfl) rfl rfl rfl (gj_step (y_lenA Try.underlying24 rfl) rfl rfl rfl (gj_step (y_lss rfl rfl) rfl rfl rfl (gj_nil ?_))))))
      refine ej_th ?_
      refine cj_cond rfl (fun h95 => ?_) (fun h95 => ?_)
      · have h95b := h95
        try simp only [sxb] at h95
        obtain ⟨x, hx⟩ : ∃ x, s.staff[i]? = some x := ⟨_, List.getElem?_eq_getElem (by omega)⟩
        have hxm : (moreL n2 s.staff i)[i]? = some x := by rw [moreL_at (by omega)]; exact hx
        have hml := moreL_len n2 s.staff i
        refine cj_skip (ej_th (cj_seq (cj_block ?_)))
        refine cj_plan 14 (by kernel_rfl) (by kernel_rfl) ?_
        refine pl_y 0 rfl (y_fa fa26_2 rfl) rfl rfl rfl rfl (by kernel_rfl) ?_
        refine pl_y 1 rfl (y_load1 Try.isAgg24 rfl rfl) rfl rfl rfl rfl (by kernel_rfl) ?_
        refine pl_y 2 rfl (y_move rfl) rfl rfl rfl rfl (by kernel_rfl) ?_
        refine pl_y 3 rfl (y_fa fa26_2 rfl) rfl rfl rfl rfl (by kernel_rfl) ?_
        refine pl_y 4 rfl (y_load1 Try.isAgg24 rfl rfl) rfl rfl rfl rfl (by kernel_rfl) ?_
        refine pl_y 5 rfl (y_move rfl) rfl rfl rfl rfl (by kernel_rfl) ?_
        refine pl_y 6 rfl (y_ixRm (m := s.staff.length) (xs := moreL n2 s.staff i) (moreL_len n2 s.staff i).symm reads_owI Try.underlying24 Try.sizeOf3 rfl rfl ⟨by omega, by omega⟩) rfl rfl rfl rfl (by kernel_rfl) ?_
        refine pl_y 7 rfl (y_ld0 reads_owI Try.isAgg3 rfl hxm rfl) rfl rfl rfl rfl (by kernel_rfl) ?_
        refine pl_y 8 rfl (y_ixArrC 2 Try.underlying39 Try.sizeOf3 rfl rfl (by decide) (by decide)) rfl rfl rfl rfl (by kernel_rfl) ?_
        refine pl_y 9 rfl (y_load1 Try.isAgg3 rfl rfl) rfl rfl rfl rfl (by kernel_rfl) ?_
        refine pl_y 10 rfl (y_orZ rfl rfl) rfl rfl rfl rfl (by kernel_rfl) ?_
        refine pl_y 11 rfl (y_andZ (c := 255) rfl rfl (by decide)) rfl rfl rfl rfl (by kernel_rfl) ?_
        refine pl_y 12 rfl (y_ixRm (m := s.staff.length) (xs := moreL n2 s.staff i) (moreL_len n2 s.staff i).symm reads_owI Try.underlying24 Try.sizeOf3 rfl rfl ⟨by omega, by omega⟩) rfl rfl rfl rfl (by kernel_rfl) ?_
        refine pl_w1 13 (by kernel_rfl) rfl rfl (pl_fire rfl rfl rfl (by kernel_rfl) ?_)
        refine oj_storeE (i := i) (u := (moreS n2 x)) rfl rfl rfl rfl Try.sizeOf3 (fun _ => rfl) (by first | omega | (simp only [List.length_set]; omega) | (simp; omega)) ?_
        refine oj_nil ?_
        refine ej_pl (lt_w (by kernel_rfl) (lt_w (by kernel_rfl) (lt_w (by kernel_rfl) (lt_w (by kernel_rfl) (lt_w (by kernel_rfl) (lt_w (by kernel_rfl) (lt_w (by kernel_rfl) (lt_w (by kernel_rfl) (lt_w (by kernel_rfl) (lt_w (by kernel_rfl) (lt_w (by kernel_rfl) (lt_w (by kernel_rfl) (lt_w (by kernel_rfl) (lt_nil)))))))))))))) ?_
        refine pl_end (by kernel_rfl) ?_
        refine ej_blk (ej_th ?_)
        refine cj_regionG (gj_step (y_move rfl) rfl rfl rfl (gj_step (y_add rfl rfl (by omega)) rfl rfl rfl (gj_step (y_assign rfl) rfl rfl rfl (gj_nil ?_))))
        rw [moreL_set hx]
        exact ej_nx (i + 1) (by omega) (by omega) ⟨rfl, rfl, rfl, rfl, rfl, rfl, rfl, rfl, rfl, trivial⟩
      · have h95b := h95
        try simp only [sxb] at h95
        have hie : i = s.staff.length := by omega
        subst hie
        rw [moreL_end]
        obtain ⟨hmb, hmo⟩ := moreStr_ok hb B89 c89 n2
        have hz1 : askE (moreStr s B89 c89 n2) q = 0 := by
          have h9 : (moreStr s B89 c89 n2).staff.length = s.staff.length := List.length_map ..
          rw [askE, if_pos hmb, if_pos (btw_t.2 (by rw [h9]; omega))]
        have hz2 : EntV (moreStr s B89 c89 n2) q = (reachV (moreStr s B89 c89 n2).s q : Nat) := by rw [EntV, if_pos hz1]; rfl
        have hrz : reachV (moreStr s B89 c89 n2).s q < 2 ^ s.s.rooms.length := reachV_lt hmb q
        have hin2 : hasN (reachV (moreStr s B89 c89 n2).s q) (reachV s.s q) = true := hasN_iff.2 (reach_mono hmb hmo (Sub.refl q))
        refine cj_exit (ej_then_exit (ej_then_exit (ej_blk_hit (ej_th (cj_seq ?_)))))
        refine cj_regionG ?_
        refine gj_step (y_loadN Try.isAgg26 Try.sizeOf26 rfl) rfl rfl rfl (gj_step (y_move rfl) rfl rfl rfl (?_))
        refine gj_step (y_call Try.call13 rfl (fun w hp => k_EnterM s B89 c89 s.staff.length n2 q w ⟨hs.rooms.mono hp.below, hs.gates.mono hp.below, show Rd w 1 enInt B89 (s.staff.map (moreS n2)) from hp.rdO (fun _ => rfl) (by unfold maxLen; rw [List.length_map]; omega), fun g hg => (hs.ways g hg).mono hp.below⟩ (by rw [List.length_map]))) rfl rfl rfl ?_
        refine gj_step (y_move rfl) rfl rfl rfl (gj_step (y_extract rfl rfl) rfl rfl rfl (gj_step (y_extract rfl rfl) rfl rfl rfl (gj_step (y_assign rfl) rfl rfl rfl (gj_step (y_assign rfl) rfl rfl rfl (?_)))))
        refine gj_nil ?_
        refine ej_th (cj_seq ?_)
        rw [hz1, hz2]
        refine cj_regionG ?_
        refine gj_step (y_move rfl) rfl rfl rfl (gj_step (y_eql rfl rfl) rfl rfl rfl (gj_step (y_move rfl) rfl rfl rfl (?_)))
        refine gj_g 2 119 121 rfl rfl rfl rfl (fun hg119 => gj_yes rfl rfl rfl (y_move rfl) rfl rfl (gj_yes rfl rfl rfl (y_eql rfl rfl) rfl rfl (gj_nil rfl))) ?_
        refine gj_step (y_and rfl rfl rfl) rfl rfl rfl (gj_step (y_move rfl) rfl rfl rfl (?_))
        refine gj_g 3 123 126 rfl rfl rfl rfl (fun hg123 => gj_yes rfl rfl rfl (y_move rfl) rfl rfl (gj_yes rfl rfl rfl (y_move rfl) rfl rfl (gj_yes rfl rfl rfl (y_call Try.call25 rfl (fun w hp => k_inS (reachV s.s q) (reachV s.s (andZ (orZ (q : Nat) n1) (allN s.s))) w (by omega) (by omega))) rfl rfl (gj_nil rfl)))) ?_
        refine gj_step (y_and rfl rfl rfl) rfl rfl rfl (gj_step (y_move rfl) rfl rfl rfl (?_))
        refine gj_g 3 128 131 rfl rfl rfl rfl (fun hg128 => gj_yes rfl rfl rfl (y_move rfl) rfl rfl (gj_yes rfl rfl rfl (y_move rfl) rfl rfl (gj_yes rfl rfl rfl (y_call Try.call25 rfl (fun w hp => k_inS (reachV s.s q) (reachV (moreStr s B89 c89 n2).s q) w (by omega) (by omega))) rfl rfl (gj_nil rfl)))) ?_
        refine gj_step (y_and rfl rfl rfl) rfl rfl rfl (gj_step (y_move rfl) rfl rfl rfl (?_))
        refine gj_g 1 133 134 rfl rfl rfl rfl (fun hg133 => gj_yes rfl rfl rfl (y_call Try.call19 rfl (fun w hp => k_works w)) rfl rfl (gj_nil rfl)) ?_
        refine gj_step (y_and rfl rfl rfl) rfl rfl rfl (gj_step (y_assign rfl) rfl rfl rfl (?_))
        refine gj_nil ?_
        refine ej_th (cj_ret ?_)
        exact ej_ret1 rfl Try.results5 rfl (fun w' hp => ⟨by simp [hin1, hin2], hp.below⟩)

end Go.Proofs.Ytomidcehahdmbaa
