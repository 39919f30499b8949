/- Texts of ours, joined: 7 of them. Conditions: none. -/
import Derived.Test.YtomidcehahdmbaaZh
import Derived.Test.YtomidcehahdmbaaProg
import Derived.Laws.StructEq
namespace Go.Proofs.Ytomidcehahdmbaa
open Go Go.Sx Go.RowKit Vm
section
variable {C : Cx} {Q : Exit → Act → World → Prop} {L : Regs} {O S : List Fact} {ty : TypeId} {pos : String} {aft : Array Edge} {dst : Option Tmp} {gu : Option (Nat × Bool)} {x y : Operand}
theorem y_minR {ts : Array TypeId} {k : IntKind} {m n : Int} (hx : val L x = some (.int k m)) (hy : val L y = some (.int k n)) (h : n ≤ m) : Yi C ⟨dst, .call ⟨.builtin .min, #[x, y], ts⟩, ty, pos, aft, gu⟩ L O S (.int k n) := by
  have h1 := y_min (C := C) (O := O) (S := S) (dst := dst) (ty := ty) (pos := pos) (aft := aft) (gu := gu) (ts := ts) hx hy
  rw [Int.min_eq_right h] at h1
  exact h1
end
theorem meet_V {x q : Nat} (hx : x < 64) : (((x &&& q : Nat) : Int) != 0) = meetN x q := by
  rw [Bool.eq_iff_iff]
  unfold meetN
  rw [List.any_eq_true]
  constructor
  · intro h
    have h0 : x &&& q ≠ 0 := by
      intro e
      rw [e] at h
      exact absurd h (by decide)
    obtain ⟨i, hi⟩ := Nat.exists_testBit_of_ne_zero h0
    rw [Nat.testBit_and, Bool.and_eq_true] at hi
    refine ⟨i, List.mem_range.2 ?_, by rw [hi.1, hi.2]; rfl⟩
    refine Nat.lt_of_not_le fun h8 => ?_
    have := Nat.testBit_lt_two_pow (show x < 2 ^ i from Nat.lt_of_lt_of_le hx (Nat.le_trans (by decide : 64 ≤ 2 ^ 8) (Nat.pow_le_pow_right (by decide) h8)))
    rw [hi.1] at this; cases this
  · rintro ⟨i, _, hi⟩
    rw [← Nat.testBit_and] at hi
    have h0 : x &&& q ≠ 0 := by
      intro e
      rw [e, Nat.zero_testBit] at hi; cases hi
    simpa using h0
/-- None of the sets holds another one. -/
def ApartL (l : List Nat) : Prop := ∀ (i k : Nat) a b, i ≠ k → l[i]? = some a → l[k]? = some b → hasN b a = false
theorem apart_min {l : List Nat} (hl : ∀ x ∈ l, x < 64) : ApartL (minL l) := fun i k a b hik ha hb => by
  cases h : hasN b a with
  | false => rfl
  | true =>
    have hne : a ≠ b := by
      intro e
      subst e
      have hi := (List.getElem?_eq_some_iff.1 ha).1
      exact hik ((List.getElem?_inj hi (minL_nodup l)).1 (ha.trans hb.symm))
    exact absurd (hasN_iff.1 h) (minL_apart hl (List.mem_of_getElem? ha) (List.mem_of_getElem? hb) hne)
theorem any_take {α : Type} (q : α → Bool) {l : List α} {k : Nat} {x : α} (h : l[k]? = some x) : (l.take (k + 1)).any q = ((l.take k).any q || q x) := by
  rw [List.take_add_one, h, Option.toList_some, List.any_append]; simp
theorem all_take {α : Type} (q : α → Bool) {l : List α} {k : Nat} {x : α} (h : l[k]? = some x) : (l.take (k + 1)).all q = ((l.take k).all q && q x) := by
  rw [List.take_add_one, h, Option.toList_some, List.all_append]; simp
end Go.Proofs.Ytomidcehahdmbaa
namespace Go.Proofs.Ytomidcehahdmbaa
open Go.Sx Go.RowKit
set_option maxRecDepth 20000

end Go.Proofs.Ytomidcehahdmbaa
namespace Go.Proofs.Ytomidcehahdmbaa
open Go.Sx Go.RowKit Vm
set_option maxRecDepth 20000
theorem k_inS (a b : Nat) (w : World) (ha : a ≤ 9223372036854775807) (hb : b ≤ 9223372036854775807) : Calls Try.prog 25 #[.int .i64 (a : Nat), .int .i64 (b : Nat)] w (fun e w' => e = .returned (.bool (hasN b a)) ∧ Grow w w') := by
  refine enter_pure (args := [.int .i64 (a : Nat), .int .i64 (b : Nat)]) [] Try.func25 rfl (by rw [Try.ntmps25]; simp) (by simp) ?_
  refine cj_seq ?_
  refine cj_regionG (gj_step (y_assign rfl) rfl rfl rfl (gj_nil ?_))
  refine ej_th (cj_seq ?_)
  refine cj_regionG (gj_step (y_move rfl) rfl rfl rfl (gj_step (y_move rfl) rfl rfl rfl (gj_step (y_andN rfl rfl (by omega) (by omega)) rfl rfl rfl (gj_step (y_move rfl) rfl rfl rfl (gj_step (y_eql rfl rfl) rfl rfl rfl (gj_step (y_assign rfl) rfl rfl rfl (gj_nil ?_)))))))
  refine ej_th (cj_ret ?_)
  refine ej_ret1 rfl Try.results25 rfl (fun w' hp => ⟨?_, hp.below⟩)
  congr 2
  unfold hasN
  rw [Bool.eq_iff_iff, decide_eq_true_iff, beq_iff_eq]
  omega

theorem k_least2 (l : List Nat) (A : Option Addr) (c : Nat) (w : World) (hl : Rd w 1 enInt A (intsL l)) (hap : ApartL l) (h64 : ∀ x ∈ l, x < 64) : Calls Try.prog 28 #[.slice A (intsL l).length c] w (fun e w' => e = .returned (.bool true) ∧ Grow w w') := by
  have hel := enC l
  have hll := hl.len
  rw [hel] at hll
  refine enter_pure (args := [.slice A (intsL l).length c]) [sl (fun b => b < w.heap.size) 1 enInt A (intsL l)] Try.func28 rfl (by rw [Try.ntmps28]; simp) (fun g hg => by simp at hg; subst hg; exact ⟨hl, fun _ h => h⟩) ?_
  refine cj_seq ?_
  refine cj_regionG (gj_step (y_assign rfl) rfl rfl rfl (gj_nil ?_))
  refine ej_th (cj_seq (cj_seq ?_))
  refine cj_regionG (gj_step (y_assign rfl) rfl rfl rfl (gj_nil ?_))
  refine ej_th (cj_block ?_)
  refine cj_lpic (X := Nat) [(0, _)] (fun i => i ≤ l.length) (fun i => [(3, .int .i64 (i : Nat))]) (fun i => l.length - i) 0 (Nat.zero_le _) ⟨rfl, rfl, trivial⟩ ?_
  rintro i hi
  dsimp only [List.cons_append, List.nil_append]
  refine cj_seq (cj_seq ?_)
  refine cj_regionG (gj_step (y_move rfl) rfl rfl rfl (gj_step (y_move rfl) rfl rfl rfl (gj_step (y_lenA Try.underlying24 rfl) rfl rfl rfl (gj_step (y_lss rfl rfl) rfl rfl rfl (gj_nil ?_)))))
  refine ej_th ?_
  refine cj_cond rfl (fun h8 => ?_) (fun h8 => ?_)
  · have h8b := h8
    try simp only [sxb] at h8
    obtain ⟨x, hx⟩ : ∃ x, l[i]? = some x := ⟨_, List.getElem?_eq_getElem (by omega)⟩
    have hx64 := h64 x (List.mem_of_getElem? hx)
    refine cj_skip (ej_th (cj_seq (cj_block (cj_seq ?_))))
    refine cj_regionG (gj_step (y_assign rfl) rfl rfl rfl (gj_nil ?_))
    refine ej_th (cj_block ?_)
    refine cj_lpic (X := Nat) [(3, _), (0, _)] (fun j => j ≤ l.length) (fun j => [(4, .int .i64 (j : Nat))]) (fun j => l.length - j) 0 (Nat.zero_le _) ⟨rfl, rfl, rfl, trivial⟩ ?_
    rintro j hj
    dsimp only [List.cons_append, List.nil_append]
    refine cj_seq (cj_seq ?_)
    refine cj_regionG (gj_step (y_move rfl) rfl rfl rfl (gj_step (y_move rfl) rfl rfl rfl (gj_step (y_lenA Try.underlying24 rfl) rfl rfl rfl (gj_step (y_lss rfl rfl) rfl rfl rfl (gj_nil ?_)))))
    refine ej_th ?_
    refine cj_cond rfl (fun h14 => ?_) (fun h14 => ?_)
    · have h14b := h14
      try simp only [sxb] at h14
      obtain ⟨y, hy⟩ : ∃ y, l[j]? = some y := ⟨_, List.getElem?_eq_getElem (by omega)⟩
      have hy64 := h64 y (List.mem_of_getElem? hy)
      refine cj_skip (ej_th (cj_seq (cj_block (cj_seq ?_))))
      refine cj_draw (by kernel_rfl) (by kernel_rfl) ?_
      refine gj_step (y_move rfl) rfl rfl rfl (gj_step (y_move rfl) rfl rfl rfl (gj_step (y_neq rfl rfl) rfl rfl rfl (gj_step (y_move rfl) rfl rfl rfl (?_))))
      refine gj_g 9 20 29 rfl rfl rfl rfl (fun hg20 => gj_yes rfl rfl rfl (y_move rfl) rfl rfl (gj_yes rfl rfl rfl (y_move rfl) rfl rfl (gj_yes rfl rfl rfl (y_ixR (reads_sl) Try.underlying24 Try.sizeOf3 rfl rfl (⟨by omega, by omega⟩)) rfl rfl (gj_yes rfl rfl rfl (y_ld0 (reads_sl) Try.isAgg3 rfl (get_ints hx) rfl) rfl rfl (gj_yes rfl rfl rfl (y_move rfl) rfl rfl (gj_yes rfl rfl rfl (y_move rfl) rfl rfl (gj_yes rfl rfl rfl (y_ixR (reads_sl) Try.underlying24 Try.sizeOf3 rfl rfl (⟨by omega, by omega⟩)) rfl rfl (gj_yes rfl rfl rfl (y_ld0 (reads_sl) Try.isAgg3 rfl (get_ints hy) rfl) rfl rfl (gj_yes rfl rfl rfl (y_call Try.call25 rfl (fun w hp => k_inS x y w (by omega) (by omega))) rfl rfl (gj_nil rfl)))))))))) ?_
      refine gj_step (y_and rfl rfl rfl) rfl rfl rfl (?_)
      refine gj_nil ?_
      refine ej_th ?_
      refine cj_cond rfl (fun h30 => ?_) (fun h30 => ?_)
      · rw [Bool.and_eq_true] at h30
        have hij : i ≠ j := by have h9 := h30.1; simp at h9; omega
        have h9 := hap i j x y hij hx hy
        rw [h9] at h30; exact absurd h30.2 (by simp)
      · have h30b := h30
        try simp only [sxb] at h30
        refine cj_skip (ej_blk (ej_th ?_))
        refine cj_regionG (gj_step (y_move rfl) rfl rfl rfl (gj_step (y_add rfl rfl (by omega)) rfl rfl rfl (gj_step (y_assign rfl) rfl rfl rfl (gj_nil ?_))))
        exact ej_nx (j + 1) (by omega) (by omega) ⟨rfl, rfl, rfl, trivial⟩
    · have h14b := h14
      try simp only [sxb] at h14
      refine cj_exit (ej_then_exit (ej_then_exit (ej_blk_hit (ej_blk (ej_th ?_)))))
      refine cj_regionG (gj_step (y_move rfl) rfl rfl rfl (gj_step (y_add rfl rfl (by omega)) rfl rfl rfl (gj_step (y_assign rfl) rfl rfl rfl (gj_nil ?_))))
      exact ej_nx (i + 1) (by omega) (by omega) ⟨rfl, rfl, trivial⟩
  · have h8b := h8
    try simp only [sxb] at h8
    refine cj_exit (ej_then_exit (ej_then_exit (ej_blk_hit (ej_th (cj_seq ?_)))))
    refine cj_regionG (gj_step (y_assign rfl) rfl rfl rfl (gj_nil ?_))
    refine ej_th (cj_ret ?_)
    exact ej_ret1 rfl Try.results28 rfl (fun w' hp => ⟨rfl, hp.below⟩)

end Go.Proofs.Ytomidcehahdmbaa
namespace Vm
open Go.Proofs.Ytomidcehahdmbaa
theorem walk_closed {s : Str} {grp R : Nat} (hR : closedN s grp R = true) : ∀ (w : List Nat) (r t : Nat), Sub r R → walkW s grp r w = some t → Sub t R
  | [], r, t, h, e => by
    have e : some r = some t := e
    injection e with e
    rw [← e]; exact h
  | k :: w, r, t, h, e => by
    rw [walkW] at e
    cases hg : s.gates[k]? with
    | none => rw [hg] at e; cases e
    | some g =>
      rw [hg] at e
      dsimp only at e
      by_cases hl : leadN s grp r g = true
      · rw [if_pos hl] at e
        exact walk_closed hR w _ t (next_closed (More.refl s) (Sub.refl _) hR h (List.mem_of_getElem? hg) hl) e
      · rw [if_neg hl] at e; cases e
theorem reachF_walk (s : Str) (grp : Nat) : ∀ (n r : Nat), ∃ w, walkW s grp r w = some (reachF s grp n r)
  | 0, r => ⟨[], rfl⟩
  | n + 1, r => by
    rw [reachF]
    cases hf : s.gates.find? (leadN s grp r) with
    | none => exact ⟨[], rfl⟩
    | some g =>
      obtain ⟨w, hw⟩ := reachF_walk s grp n (nextN r g)
      obtain ⟨k, hk⟩ := List.getElem?_of_mem (List.mem_of_find?_eq_some hf)
      refine ⟨k :: w, ?_⟩
      rw [walkW, hk]
      dsimp only
      rw [if_pos (List.find?_some hf), hw]
theorem walk_sub {s : Str} (hs : strB s = true) {grp R : Nat} {w : List Nat} (h : walkW s grp 1 w = some R) : Sub R (reachV s grp) := by
  have hc := reach_closed hs grp
  refine walk_closed hc w 1 R ?_ h
  unfold closedN at hc
  rw [Bool.and_eq_true] at hc
  exact Sub.bit2 hc.1
theorem good_reach {s : Str} (hs : strB s = true) {grp m : Nat} {w : List Nat} (h : Good s grp m w) : (reachV s grp).testBit m = true := by
  obtain ⟨R, h1, h2⟩ := h
  exact walk_sub hs h1 m h2
theorem wayV_reach {s : Str} (hs : strB s = true) (grp m : Nat) : (wayV s grp m).isSome = (reachV s grp).testBit m := by
  cases hw : wayV s grp m with
  | some l => rw [good_reach hs (wayV_some hw).1]; rfl
  | none =>
    cases hb : (reachV s grp).testBit m with
    | false => rfl
    | true =>
      obtain ⟨w, h1⟩ := reachF_walk s grp (64 - 1) 1
      exact absurd ⟨_, h1, hb⟩ (wayV_none hs hw w)
theorem ahead_lx : ∀ {a b : List Nat}, lx a b → aheadB (intsL b) (intsL a) = false
  | [], _, h => by cases h
  | _ :: _, [], h => by cases h
  | x :: a, y :: b, h => by
    show (if ((y : Nat) : Int) = ((x : Nat) : Int) then aheadB (intsL b) (intsL a) else decide (((y : Nat) : Int) < (x : Nat))) = false
    rcases h with h | ⟨h1, h2⟩
    · rw [if_neg (by omega), decide_eq_false (by omega)]
    · rw [if_pos (by omega)]; exact ahead_lx h2
theorem ahead_self : ∀ a : List Nat, aheadB (intsL a) (intsL a) = false
  | [] => rfl
  | x :: a => by
    show (if ((x : Nat) : Int) = ((x : Nat) : Int) then aheadB (intsL a) (intsL a) else _) = false
    rw [if_pos rfl]; exact ahead_self a
/-- No way is shorter, or as short and before it. -/
theorem short_way {s : Str} {grp m R : Nat} {l : List Nat} {t : List Int} (h : wayV s grp m = some l) (ht : opnI s grp 1 t = some R) (hb : R.testBit m = true) : l.length < t.length ∨ (l.length = t.length ∧ aheadB t (intsL l) = false) := by
  obtain ⟨e, hw⟩ := opn_nats s grp t 1 R ht
  have hl : (t.map Int.toNat).length = t.length := by simp
  rcases (wayV_some h).2 _ ⟨R, hw, hb⟩ with h1 | h1 | ⟨h1, h2⟩
  · right
    refine ⟨by rw [h1, hl], ?_⟩
    rw [e, ← h1]; exact ahead_self l
  · left; omega
  · right
    refine ⟨by omega, ?_⟩
    rw [e]; exact ahead_lx h2
theorem way_nil {s : StrV} {g m : Int} (h : wayE s g m ≠ 0) : wayL s g m = [] := by
  unfold wayE at h
  unfold wayL
  by_cases ha : askE s g = 0
  · rw [if_pos ha] at h ⊢
    by_cases hb : btw 0 m (s.rooms.length - 1) = true
    · rw [if_pos hb] at h ⊢
      cases hw : wayV s.s g.toNat m.toNat with
      | none => rfl
      | some l => rw [hw] at h; exact absurd rfl h
    · rw [if_neg hb]
  · rw [if_neg ha]
/-- A way was asked for, and what there is to know of it. -/
theorem way_known {s : StrV} {g m : Int} (ha : askE s g = 0) (h : wayE s g m = 0 ∨ wayE s g m = 4) : ∃ q k : Nat, g = q ∧ m = k ∧ k ≤ 5 ∧ ((wayE s q k == 0) = (reachV s.s q).testBit k) ∧ ∀ (t : List Int) (R : Nat), opnI s.s q 1 t = some R → Sub R (reachV s.s q) ∧ (R.testBit k = true → (wayL s q k).length < t.length ∨ ((wayL s q k).length = t.length ∧ aheadB t (intsL (wayL s q k)) = false)) := by
  obtain ⟨_, _, hb, hg0, _, _⟩ := ask_0 ha
  have hrl := (rooms_le hb).2.1
  have hrl2 : s.rooms.length ≤ 6 := hrl
  have hbt : btw 0 m (s.rooms.length - 1) = true := by
    cases hbt : btw 0 m (s.rooms.length - 1) with
    | true => rfl
    | false =>
      have h9 := (way_7 ha hbt).1
      omega
  have hm := btw_t.1 hbt
  refine ⟨g.toNat, m.toNat, by omega, by omega, by omega, ?_, fun t R ht => ?_⟩
  · rw [Int.toNat_of_nonneg hg0, Int.toNat_of_nonneg hm.1, ← wayV_reach hb]
    cases hw : wayV s.s g.toNat m.toNat with
    | none => rw [(way_4 ha hbt hw).1]; rfl
    | some l => rw [(way_0 ha hbt hw).1]; rfl
  · obtain ⟨e, hw⟩ := opn_nats s.s g.toNat t 1 R ht
    refine ⟨walk_sub hb hw, fun hR => ?_⟩
    rw [Int.toNat_of_nonneg hg0, Int.toNat_of_nonneg hm.1]
    have hbit := walk_sub hb hw _ hR
    rw [← wayV_reach hb] at hbit
    obtain ⟨l, hl⟩ := Option.isSome_iff_exists.1 hbit
    rw [(way_0 ha hbt hl).2]
    exact short_way hl ht hR
/-- The way that was found, walked. -/
theorem way_walked {s : StrV} {q k : Nat} (ha : askE s q = 0) (h0 : wayE s q k = 0) : ∃ R, opnI s.s q 1 (intsL (wayL s q k)) = some R ∧ R.testBit k = true := by
  have hbt : btw 0 (k : Int) (s.rooms.length - 1) = true := by
    cases hbt : btw 0 (k : Int) (s.rooms.length - 1) with
    | true => rfl
    | false => have h9 := (way_7 ha hbt).1; omega
  cases hw : wayV s.s (q : Int).toNat (k : Int).toNat with
  | none => have h9 := (way_4 ha hbt hw).1; omega
  | some l =>
    rw [(way_0 ha hbt hw).2, opn_walk]
    exact (wayV_some hw).1
end Vm
namespace Go.Proofs.Ytomidcehahdmbaa
open Go.Sx Go.RowKit
set_option maxRecDepth 20000
theorem fa62_0 : FieldIs Try.prog 62 0 0 1 false := ⟨⟨_, _, Try.underlying62, rfl, rfl, Try.sizeOf3, Try.isAgg3, by decide⟩⟩
theorem fa62_1 : FieldIs Try.prog 62 1 1 1 false := ⟨⟨_, _, Try.underlying62, rfl, rfl, Try.sizeOf3, Try.isAgg3, by decide⟩⟩
theorem fa62_2 : FieldIs Try.prog 62 2 2 1 false := ⟨⟨_, _, Try.underlying62, rfl, rfl, Try.sizeOf24, Try.isAgg24, by decide⟩⟩
end Go.Proofs.Ytomidcehahdmbaa
namespace Go.Proofs.Ytomidcehahdmbaa
open Go.Sx Go.RowKit
set_option maxRecDepth 20000

end Go.Proofs.Ytomidcehahdmbaa
namespace Go.Proofs.Ytomidcehahdmbaa
open Go.Sx Go.RowKit Vm
set_option maxRecDepth 20000
set_option maxHeartbeats 3200000 in
theorem k_VaultShortest (s : StrV) (tg tr : Int) (tl : List Int) (tA : Option Addr) (tc : Nat) (w : World) (hs : StrRd w s) (htl : Rd w 1 enInt tA tl) : Calls Try.prog 11 #[.agg #[.slice s.Ar s.rooms.length s.cr, .slice s.Ag s.gates.length s.cg, .slice s.As s.staff.length s.cs], .agg #[.int .i64 tg, .int .i64 tr, .slice tA tl.length tc]] w (fun e w' => e = .returned (.bool true) ∧ Grow w w') := by
  have htll := htl.len
  refine enter_pure (args := [.agg #[.slice s.Ar s.rooms.length s.cr, .slice s.Ag s.gates.length s.cg, .slice s.As s.staff.length s.cs], .agg #[.int .i64 tg, .int .i64 tr, .slice tA tl.length tc]]) [sl (fun b => b < w.heap.size) 1 enInt tA tl] Try.func11 rfl (by rw [Try.ntmps11]; simp) (fun g hg => by simp at hg; subst hg; exact ⟨htl, fun _ h => h⟩) ?_
  refine cj_seq (cj_region ?_)
  refine oj_box rfl rfl rfl (fun b2 => ?_)
  refine oj_box rfl rfl rfl (fun b3 => ?_)
  refine oj_step (y_assign rfl) rfl rfl rfl ?_
  refine oj_nil ?_
  refine ej_th (cj_seq (cj_region ?_))
  refine oj_step (y_loadN Try.isAgg26 Try.sizeOf26 rfl) rfl rfl rfl ?_
  refine oj_step (y_fa0 fa62_0 rfl) rfl rfl rfl ?_
  refine oj_step (y_load1 Try.isAgg3 rfl rfl) rfl rfl rfl ?_
  refine oj_step (y_fa fa62_1 rfl) rfl rfl rfl ?_
  refine oj_step (y_load1 Try.isAgg3 rfl rfl) rfl rfl rfl ?_
  refine oj_callS (fun A c => .tuple #[.slice A (intsL (wayL s tg tr)).length c, .int .i64 (wayE s tg tr)]) 1 enInt (intsL (wayL s tg tr)) Try.call35 rfl (fun w hp => k_Way s tg tr w (hs.mono hp.below)) rfl (fun A19 c19 fp19 hfp19 => ?_)
  refine oj_step (y_move rfl) rfl rfl rfl ?_
  refine oj_step (y_extract rfl rfl) rfl rfl rfl ?_
  refine oj_step (y_extract rfl rfl) rfl rfl rfl ?_
  refine oj_step (y_assign rfl) rfl rfl rfl ?_
  refine oj_step (y_assign rfl) rfl rfl rfl ?_
  refine oj_nil ?_
  refine ej_th (cj_seq ?_)
  refine cj_regionG ?_
  refine gj_step (y_loadN Try.isAgg26 Try.sizeOf26 rfl) rfl rfl rfl (gj_step (y_fa0 fa62_0 rfl) rfl rfl rfl (gj_step (y_load1 Try.isAgg3 rfl rfl) rfl rfl rfl (?_)))
  refine gj_step (y_call Try.call13 rfl (fun w hp => k_Enter s tg w (hs.mono hp.below))) rfl rfl rfl ?_
  refine gj_step (y_move rfl) rfl rfl rfl (gj_step (y_extract rfl rfl) rfl rfl rfl (gj_step (y_extract rfl rfl) rfl rfl rfl (gj_step (y_assign rfl) rfl rfl rfl (gj_step (y_assign rfl) rfl rfl rfl (?_)))))
  refine gj_nil ?_
  refine ej_th (cj_seq (cj_seq ?_))
  refine cj_regionG (gj_step (y_move rfl) rfl rfl rfl (gj_step (y_neq rfl rfl) rfl rfl rfl (gj_step (y_move rfl) rfl rfl rfl (gj_g 6 31 37 rfl rfl rfl rfl (fun hg31 => gj_yes rfl rfl rfl (y_move rfl) rfl rfl (gj_yes rfl rfl rfl (y_neq rfl rfl) rfl rfl (gj_yes rfl rfl rfl (y_move rfl) rfl rfl (gj_g 2 34 36 rfl rfl rfl rfl (fun hg34 => gj_yes rfl rfl rfl (y_move rfl) rfl rfl (gj_yes rfl rfl rfl (y_neq rfl rfl) rfl rfl (gj_nil rfl))) (gj_yes rfl rfl rfl (y_and rfl rfl rfl) rfl rfl (gj_nil rfl)))))) (gj_step (y_or rfl rfl rfl) rfl rfl rfl (gj_nil ?_))))))
  refine ej_th ?_
  refine cj_cond rfl (fun h38 => ?_) (fun h38 => ?_)
  · have h38b := h38
    try simp only [sxb] at h38
    have hne : wayE s tg tr ≠ 0 := by
      intro e
      by_cases ha : askE s tg = 0
      · rw [ha, e] at h38b; exact absurd h38b (by decide)
      · exact ha (by rw [← (way_bad (m := tr) ha).1]; exact e)
    have hnil := way_nil hne
    refine cj_seq ?_
    refine cj_regionG ?_
    refine gj_step (y_move rfl) rfl rfl rfl (gj_step (y_lenA Try.underlying24 rfl) rfl rfl rfl (gj_step (y_eql rfl rfl) rfl rfl rfl (gj_step (y_move rfl) rfl rfl rfl (?_))))
    refine gj_g 1 42 43 rfl rfl rfl rfl (fun hg42 => gj_yes rfl rfl rfl (y_call Try.call19 rfl (fun w hp => k_works w)) rfl rfl (gj_nil rfl)) ?_
    refine gj_step (y_and rfl rfl rfl) rfl rfl rfl (gj_step (y_assign rfl) rfl rfl rfl (?_))
    refine gj_nil ?_
    refine ej_th (cj_ret (ej_then_ret ?_))
    exact ej_ret1 rfl Try.results11 rfl (fun w' hp => ⟨by simp [hnil], hp.below⟩)
  · have h38b := h38
    try simp only [sxb] at h38
    rw [Bool.or_eq_false_iff] at h38b
    have h1 : askE s tg = 0 := by simpa using h38b.1
    have h4 : wayE s tg tr = 0 ∨ wayE s tg tr = 4 := by have h9 := h38b.2; simp at h9; omega
    obtain ⟨_, _, hb, hg0, hgl, hg64⟩ := ask_0 h1
    obtain ⟨q, m, hq, hm, hm5, hA, hK⟩ := way_known h1 h4
    subst hq
    subst hm
    have hEV : EntV s q = (reachV s.s q : Nat) := by rw [EntV, if_pos h1]; rfl
    rw [hEV]
    have hok := StrOk.of hb
    have hnr := hok.nr
    have hng := hok.ng
    have hns := hok.ns
    have hrlt := reachV_lt hb q
    have h64r : 2 ^ s.s.rooms.length ≤ 64 := pow_le64 hnr.2
    refine cj_skip (ej_th (cj_seq (cj_seq ?_)))
    refine cj_regionG ?_
    refine gj_step (y_fa fa62_1 rfl) rfl rfl rfl (gj_step (y_load1 Try.isAgg3 rfl rfl) rfl rfl rfl (?_))
    refine gj_step (y_call Try.call27 rfl (fun w hp => k_From _ _ _ w)) rfl rfl rfl ?_
    refine gj_step (y_not rfl) rfl rfl rfl (gj_step (y_move rfl) rfl rfl rfl (?_))
    refine gj_g 7 49 56 rfl rfl rfl rfl (fun hg49 => gj_yes rfl rfl rfl (y_move rfl) rfl rfl (gj_yes rfl rfl rfl (y_eql rfl rfl) rfl rfl (gj_yes rfl rfl rfl (y_move rfl) rfl rfl (gj_yes rfl rfl rfl (y_fa fa62_1 rfl) rfl rfl (gj_yes rfl rfl rfl (y_load1 Try.isAgg3 rfl rfl) rfl rfl (gj_yes rfl rfl rfl (y_call Try.call29 rfl (fun w hp => k_Bit (reachV s.s q) m w (by omega))) rfl rfl (gj_yes rfl rfl rfl (y_neqB Try.underlying4 rfl rfl) rfl rfl (gj_nil rfl)))))))) ?_
    refine gj_step (y_or rfl rfl rfl) rfl rfl rfl (?_)
    refine gj_nil ?_
    refine ej_th ?_
    refine cj_cond rfl (fun h57 => ?_) (fun h57 => ?_)
    · rw [btw_t.2 (show (0 : Int) ≤ (m : Nat) ∧ ((m : Nat) : Int) ≤ 5 by omega), hA] at h57
      simp at h57
    · have h57b := h57
      try simp only [sxb] at h57
      refine cj_skip (ej_th (cj_seq (cj_seq ?_)))
      refine cj_regionG (gj_step (y_move rfl) rfl rfl rfl (gj_step (y_eql rfl rfl) rfl rfl rfl (gj_nil ?_)))
      refine ej_th ?_
      refine cj_cond rfl (fun h59 => ?_) (fun h59 => ?_)
      · have h59b := h59
        try simp only [sxb] at h59
        have hwe : wayE s q m = 0 := by simpa using h59
        obtain ⟨R, hR, hRb⟩ := way_walked h1 hwe
        obtain ⟨hRs, _⟩ := hK _ R hR
        have hRl := hRs.le
        obtain ⟨ho1, ho2⟩ := opn_ok h1 hR
        refine cj_seq ?_
        refine cj_regionG ?_
        refine gj_step (y_loadN Try.isAgg26 Try.sizeOf26 rfl) rfl rfl rfl (gj_step (y_fa0 fa62_0 rfl) rfl rfl rfl (gj_step (y_load1 Try.isAgg3 rfl rfl) rfl rfl rfl (gj_step (y_move rfl) rfl rfl rfl (?_))))
        refine gj_step (y_call Try.call37 rfl (fun w hp => k_Opens s q (intsL (wayL s q m)) A19 c19 w (hs.mono hp.below) hp.rd)) rfl rfl rfl ?_
        refine gj_step (y_move rfl) rfl rfl rfl (gj_step (y_extract rfl rfl) rfl rfl rfl (gj_step (y_extract rfl rfl) rfl rfl rfl (gj_step (y_assign rfl) rfl rfl rfl (gj_step (y_assign rfl) rfl rfl rfl (?_)))))
        refine gj_nil ?_
        refine ej_th (cj_seq ?_)
        rw [ho1]
        refine cj_regionG ?_
        refine gj_step (y_move rfl) rfl rfl rfl (gj_step (y_neq rfl rfl) rfl rfl rfl (gj_step (y_move rfl) rfl rfl rfl (?_)))
        refine gj_g 5 70 75 rfl rfl rfl rfl (fun hg70 => gj_yes rfl rfl rfl (y_move rfl) rfl rfl (gj_yes rfl rfl rfl (y_fa fa62_1 rfl) rfl rfl (gj_yes rfl rfl rfl (y_load1 Try.isAgg3 rfl rfl) rfl rfl (gj_yes rfl rfl rfl (y_call Try.call29 rfl (fun w hp => k_Bit (opnV s q (intsL (wayL s q m))) m w (by omega))) rfl rfl (gj_yes rfl rfl rfl (y_not rfl) rfl rfl (gj_nil rfl)))))) ?_
        refine gj_step (y_or rfl rfl rfl) rfl rfl rfl (gj_step (y_move rfl) rfl rfl rfl (?_))
        refine gj_g 4 77 81 rfl rfl rfl rfl (fun hg77 => gj_yes rfl rfl rfl (y_move rfl) rfl rfl (gj_yes rfl rfl rfl (y_move rfl) rfl rfl (gj_yes rfl rfl rfl (y_call Try.call25 rfl (fun w hp => k_inS (opnV s q (intsL (wayL s q m))) (reachV s.s q) w (by omega) (by omega))) rfl rfl (gj_yes rfl rfl rfl (y_not rfl) rfl rfl (gj_nil rfl))))) ?_
        refine gj_step (y_or rfl rfl rfl) rfl rfl rfl (?_)
        refine gj_nil ?_
        refine ej_th ?_
        refine cj_cond rfl (fun h82 => ?_) (fun h82 => ?_)
        · rw [ho2, hRb, hasN_iff.2 hRs] at h82
          exact absurd h82 (by decide)
        · have h82b := h82
          try simp only [sxb] at h82
          refine cj_skip (ej_th (cj_seq ?_))
          refine cj_regionG ?_
          refine gj_step (y_loadN Try.isAgg26 Try.sizeOf26 rfl) rfl rfl rfl (gj_step (y_fa0 fa62_0 rfl) rfl rfl rfl (gj_step (y_load1 Try.isAgg3 rfl rfl) rfl rfl rfl (gj_step (y_fa fa62_2 rfl) rfl rfl rfl (gj_step (y_load1 Try.isAgg24 rfl rfl) rfl rfl rfl (?_)))))
          refine gj_step (y_call Try.call37 rfl (fun w hp => k_Opens s q tl tA tc w (hs.mono hp.below) hp.rd)) rfl rfl rfl ?_
          refine gj_step (y_move rfl) rfl rfl rfl (gj_step (y_extract rfl rfl) rfl rfl rfl (gj_step (y_extract rfl rfl) rfl rfl rfl (gj_step (y_assign rfl) rfl rfl rfl (gj_step (y_assign rfl) rfl rfl rfl (?_)))))
          refine gj_nil ?_
          refine ej_th (cj_seq (cj_seq ?_))
          refine cj_regionG (gj_step (y_move rfl) rfl rfl rfl (gj_step (y_neq rfl rfl) rfl rfl rfl (gj_nil ?_)))
          refine ej_th ?_
          refine cj_cond rfl (fun h93 => ?_) (fun h93 => ?_)
          · have h93b := h93
            try simp only [sxb] at h93
            have hno : opnI s.s q 1 tl = none := by
              cases hR : opnI s.s q 1 tl with
              | none => rfl
              | some R => exact absurd (opn_ok h1 hR).1 h93
            obtain ⟨ho3, ho4⟩ := opn_42 h1 hno
            refine cj_seq ?_
            refine cj_regionG ?_
            refine gj_step (y_move rfl) rfl rfl rfl (gj_step (y_eql rfl rfl) rfl rfl rfl (gj_step (y_move rfl) rfl rfl rfl (?_)))
            refine gj_g 2 96 98 rfl rfl rfl rfl (fun hg96 => gj_yes rfl rfl rfl (y_move rfl) rfl rfl (gj_yes rfl rfl rfl (y_eql rfl rfl) rfl rfl (gj_nil rfl))) ?_
            refine gj_step (y_and rfl rfl rfl) rfl rfl rfl (gj_step (y_move rfl) rfl rfl rfl (?_))
            refine gj_g 1 100 101 rfl rfl rfl rfl (fun hg100 => gj_yes rfl rfl rfl (y_call Try.call19 rfl (fun w hp => k_works w)) rfl rfl (gj_nil rfl)) ?_
            refine gj_step (y_and rfl rfl rfl) rfl rfl rfl (gj_step (y_assign rfl) rfl rfl rfl (?_))
            refine gj_nil ?_
            refine ej_th (cj_ret (ej_then_ret ?_))
            exact ej_ret1 rfl Try.results11 rfl (fun w' hp => ⟨by simp [ho3, ho4], hp.below⟩)
          · have h93b := h93
            try simp only [sxb] at h93
            have h12 : opnE s q tl = 0 := by simpa using h93
            obtain ⟨R2, hR2⟩ : ∃ R2, opnI s.s q 1 tl = some R2 := by
              cases hR : opnI s.s q 1 tl with
              | none => have h9 := (opn_42 h1 hR).1; omega
              | some R => exact ⟨R, rfl⟩
            have ho5 := (opn_ok h1 hR2).2
            obtain ⟨hs2, hf2⟩ := hK tl R2 hR2
            have hR2l := hs2.le
            have hov : opnV s q tl < 64 := by omega
            have hfin : (opnV s q tl).testBit m = true → (wayE s q m == 0) = true ∧ ((intsL (wayL s q m)).length < tl.length ∨ ((intsL (wayL s q m)).length = tl.length ∧ aheadB tl (intsL (wayL s q m)) = false)) := fun hbt => by
              rw [ho5] at hbt
              refine ⟨by rw [hA]; exact hs2 m hbt, ?_⟩
              rw [enC]; exact hf2 hbt
            refine cj_skip (ej_th (cj_seq (cj_seq ?_)))
            refine cj_regionG ?_
            refine gj_step (y_move rfl) rfl rfl rfl (gj_step (y_move rfl) rfl rfl rfl (?_))
            refine gj_step (y_call Try.call25 rfl (fun w hp => k_inS (opnV s q tl) (reachV s.s q) w (by omega) (by omega))) rfl rfl rfl ?_
            refine gj_step (y_not rfl) rfl rfl rfl (?_)
            refine gj_nil ?_
            refine ej_th ?_
            refine cj_cond rfl (fun h106 => ?_) (fun h106 => ?_)
            · rw [ho5, hasN_iff.2 hs2] at h106
              exact absurd h106 (by decide)
            · have h106b := h106
              try simp only [sxb] at h106
              refine cj_skip (ej_th (cj_seq ?_))
              refine cj_regionG ?_
              refine gj_step (y_move rfl) rfl rfl rfl (gj_step (y_fa fa62_1 rfl) rfl rfl rfl (gj_step (y_load1 Try.isAgg3 rfl rfl) rfl rfl rfl (?_)))
              refine gj_step (y_call Try.call29 rfl (fun w hp => k_Bit (opnV s q tl) m w (by omega))) rfl rfl rfl ?_
              refine gj_step (y_not rfl) rfl rfl rfl (gj_step (y_move rfl) rfl rfl rfl (?_))
              refine gj_g 25 112 137 rfl rfl rfl rfl (fun hg112 => gj_yes rfl rfl rfl (y_move rfl) rfl rfl (gj_yes rfl rfl rfl (y_eql rfl rfl) rfl rfl (gj_yes rfl rfl rfl (y_move rfl) rfl rfl (gj_g 21 115 136 rfl rfl rfl rfl (fun hg115 => gj_yes rfl rfl rfl (y_move rfl) rfl rfl (gj_yes rfl rfl rfl (y_lenA Try.underlying24 rfl) rfl rfl (gj_yes rfl rfl rfl (y_fa fa62_2 rfl) rfl rfl (gj_yes rfl rfl rfl (y_load1 Try.isAgg24 rfl rfl) rfl rfl (gj_yes rfl rfl rfl (y_lenA Try.underlying24 rfl) rfl rfl (gj_yes rfl rfl rfl (y_lss rfl rfl) rfl rfl (gj_yes rfl rfl rfl (y_move rfl) rfl rfl (gj_g 13 122 135 rfl rfl rfl rfl (fun hg122 => gj_yes rfl rfl rfl (y_move rfl) rfl rfl (gj_yes rfl rfl rfl (y_lenA Try.underlying24 rfl) rfl rfl (gj_yes rfl rfl rfl (y_fa fa62_2 rfl) rfl rfl (gj_yes rfl rfl rfl (y_load1 Try.isAgg24 rfl rfl) rfl rfl (gj_yes rfl rfl rfl (y_lenA Try.underlying24 rfl) rfl rfl (gj_yes rfl rfl rfl (y_eql rfl rfl) rfl rfl (gj_yes rfl rfl rfl (y_move rfl) rfl rfl (gj_g 5 129 134 rfl rfl rfl rfl (fun hg129 => gj_yes rfl rfl rfl (y_fa fa62_2 rfl) rfl rfl (gj_yes rfl rfl rfl (y_load1 Try.isAgg24 rfl rfl) rfl rfl (gj_yes rfl rfl rfl (y_move rfl) rfl rfl (gj_yes rfl rfl rfl (y_call Try.call39 rfl (fun w hp => k_Ahead tl (intsL (wayL s q m)) tA A19 tc c19 w hp.rd hp.rd)) rfl rfl (gj_yes rfl rfl rfl (y_not rfl) rfl rfl (gj_nil rfl)))))) (gj_yes rfl rfl rfl (y_and rfl rfl rfl) rfl rfl (gj_nil rfl)))))))))) (gj_yes rfl rfl rfl (y_or rfl rfl rfl) rfl rfl (gj_nil rfl)))))))))) (gj_yes rfl rfl rfl (y_and rfl rfl rfl) rfl rfl (gj_nil rfl)))))) ?_
              refine gj_step (y_or rfl rfl rfl) rfl rfl rfl (gj_step (y_move rfl) rfl rfl rfl (?_))
              refine gj_g 1 139 140 rfl rfl rfl rfl (fun hg139 => gj_yes rfl rfl rfl (y_call Try.call19 rfl (fun w hp => k_works w)) rfl rfl (gj_nil rfl)) ?_
              refine gj_step (y_and rfl rfl rfl) rfl rfl rfl (gj_step (y_assign rfl) rfl rfl rfl (?_))
              refine gj_nil ?_
              refine ej_th (cj_ret ?_)
              refine ej_ret1 rfl Try.results11 rfl (fun w' hp => ⟨?_, hp.below⟩)
              cases hb2 : (opnV s q tl).testBit m with
              | false => simp [hb2]
              | true =>
                obtain ⟨f1, f2⟩ := hfin hb2
                rcases f2 with f2 | ⟨f2, f3⟩
                · rw [enC] at f2
                  simp [hb2, f1, f2]
                · simp [hb2, f1, f2, f3]
      · have h59b := h59
        try simp only [sxb] at h59
        refine cj_skip (ej_th (cj_seq ?_))
        refine cj_regionG ?_
        refine gj_step (y_loadN Try.isAgg26 Try.sizeOf26 rfl) rfl rfl rfl (gj_step (y_fa0 fa62_0 rfl) rfl rfl rfl (gj_step (y_load1 Try.isAgg3 rfl rfl) rfl rfl rfl (gj_step (y_fa fa62_2 rfl) rfl rfl rfl (gj_step (y_load1 Try.isAgg24 rfl rfl) rfl rfl rfl (?_)))))
        refine gj_step (y_call Try.call37 rfl (fun w hp => k_Opens s q tl tA tc w (hs.mono hp.below) hp.rd)) rfl rfl rfl ?_
        refine gj_step (y_move rfl) rfl rfl rfl (gj_step (y_extract rfl rfl) rfl rfl rfl (gj_step (y_extract rfl rfl) rfl rfl rfl (gj_step (y_assign rfl) rfl rfl rfl (gj_step (y_assign rfl) rfl rfl rfl (?_)))))
        refine gj_nil ?_
        refine ej_th (cj_seq (cj_seq ?_))
        refine cj_regionG (gj_step (y_move rfl) rfl rfl rfl (gj_step (y_neq rfl rfl) rfl rfl rfl (gj_nil ?_)))
        refine ej_th ?_
        refine cj_cond rfl (fun h93 => ?_) (fun h93 => ?_)
        · have h93b := h93
          try simp only [sxb] at h93
          have hno : opnI s.s q 1 tl = none := by
            cases hR : opnI s.s q 1 tl with
            | none => rfl
            | some R => exact absurd (opn_ok h1 hR).1 h93
          obtain ⟨ho3, ho4⟩ := opn_42 h1 hno
          refine cj_seq ?_
          refine cj_regionG ?_
          refine gj_step (y_move rfl) rfl rfl rfl (gj_step (y_eql rfl rfl) rfl rfl rfl (gj_step (y_move rfl) rfl rfl rfl (?_)))
          refine gj_g 2 96 98 rfl rfl rfl rfl (fun hg96 => gj_yes rfl rfl rfl (y_move rfl) rfl rfl (gj_yes rfl rfl rfl (y_eql rfl rfl) rfl rfl (gj_nil rfl))) ?_
          refine gj_step (y_and rfl rfl rfl) rfl rfl rfl (gj_step (y_move rfl) rfl rfl rfl (?_))
          refine gj_g 1 100 101 rfl rfl rfl rfl (fun hg100 => gj_yes rfl rfl rfl (y_call Try.call19 rfl (fun w hp => k_works w)) rfl rfl (gj_nil rfl)) ?_
          refine gj_step (y_and rfl rfl rfl) rfl rfl rfl (gj_step (y_assign rfl) rfl rfl rfl (?_))
          refine gj_nil ?_
          refine ej_th (cj_ret (ej_then_ret ?_))
          exact ej_ret1 rfl Try.results11 rfl (fun w' hp => ⟨by simp [ho3, ho4], hp.below⟩)
        · have h93b := h93
          try simp only [sxb] at h93
          have h12 : opnE s q tl = 0 := by simpa using h93
          obtain ⟨R2, hR2⟩ : ∃ R2, opnI s.s q 1 tl = some R2 := by
            cases hR : opnI s.s q 1 tl with
            | none => have h9 := (opn_42 h1 hR).1; omega
            | some R => exact ⟨R, rfl⟩
          have ho5 := (opn_ok h1 hR2).2
          obtain ⟨hs2, hf2⟩ := hK tl R2 hR2
          have hR2l := hs2.le
          have hov : opnV s q tl < 64 := by omega
          have hfin : (opnV s q tl).testBit m = true → (wayE s q m == 0) = true ∧ ((intsL (wayL s q m)).length < tl.length ∨ ((intsL (wayL s q m)).length = tl.length ∧ aheadB tl (intsL (wayL s q m)) = false)) := fun hbt => by
            rw [ho5] at hbt
            refine ⟨by rw [hA]; exact hs2 m hbt, ?_⟩
            rw [enC]; exact hf2 hbt
          refine cj_skip (ej_th (cj_seq (cj_seq ?_)))
          refine cj_regionG ?_
          refine gj_step (y_move rfl) rfl rfl rfl (gj_step (y_move rfl) rfl rfl rfl (?_))
          refine gj_step (y_call Try.call25 rfl (fun w hp => k_inS (opnV s q tl) (reachV s.s q) w (by omega) (by omega))) rfl rfl rfl ?_
          refine gj_step (y_not rfl) rfl rfl rfl (?_)
          refine gj_nil ?_
          refine ej_th ?_
          refine cj_cond rfl (fun h106 => ?_) (fun h106 => ?_)
          · rw [ho5, hasN_iff.2 hs2] at h106
            exact absurd h106 (by decide)
          · have h106b := h106
            try simp only [sxb] at h106
            refine cj_skip (ej_th (cj_seq ?_))
            refine cj_regionG ?_
            refine gj_step (y_move rfl) rfl rfl rfl (gj_step (y_fa fa62_1 rfl) rfl rfl rfl (gj_step (y_load1 Try.isAgg3 rfl rfl) rfl rfl rfl (?_)))
            refine gj_step (y_call Try.call29 rfl (fun w hp => k_Bit (opnV s q tl) m w (by omega))) rfl rfl rfl ?_
            refine gj_step (y_not rfl) rfl rfl rfl (gj_step (y_move rfl) rfl rfl rfl (?_))
            refine gj_g 25 112 137 rfl rfl rfl rfl (fun hg112 => gj_yes rfl rfl rfl (y_move rfl) rfl rfl (gj_yes rfl rfl rfl (y_eql rfl rfl) rfl rfl (gj_yes rfl rfl rfl (y_move rfl) rfl rfl (gj_g 21 115 136 rfl rfl rfl rfl (fun hg115 => gj_yes rfl rfl rfl (y_move rfl) rfl rfl (gj_yes rfl rfl rfl (y_lenA Try.underlying24 rfl) rfl rfl (gj_yes rfl rfl rfl (y_fa fa62_2 rfl) rfl rfl (gj_yes rfl rfl rfl (y_load1 Try.isAgg24 rfl rfl) rfl rfl (gj_yes rfl rfl rfl (y_lenA Try.underlying24 rfl) rfl rfl (gj_yes rfl rfl rfl (y_lss rfl rfl) rfl rfl (gj_yes rfl rfl rfl (y_move rfl) rfl rfl (gj_g 13 122 135 rfl rfl rfl rfl (fun hg122 => gj_yes rfl rfl rfl (y_move rfl) rfl rfl (gj_yes rfl rfl rfl (y_lenA Try.underlying24 rfl) rfl rfl (gj_yes rfl rfl rfl (y_fa fa62_2 rfl) rfl rfl (gj_yes rfl rfl rfl (y_load1 Try.isAgg24 rfl rfl) rfl rfl (gj_yes rfl rfl rfl (y_lenA Try.underlying24 rfl) rfl rfl (gj_yes rfl rfl rfl (y_eql rfl rfl) rfl rfl (gj_yes rfl rfl rfl (y_move rfl) rfl rfl (gj_g 5 129 134 rfl rfl rfl rfl (fun hg129 => gj_yes rfl rfl rfl (y_fa fa62_2 rfl) rfl rfl (gj_yes rfl rfl rfl (y_load1 Try.isAgg24 rfl rfl) rfl rfl (gj_yes rfl rfl rfl (y_move rfl) rfl rfl (gj_yes rfl rfl rfl (y_call Try.call39 rfl (fun w hp => k_Ahead tl (intsL (wayL s q m)) tA A19 tc c19 w hp.rd hp.rd)) rfl rfl (gj_yes rfl rfl rfl (y_not rfl) rfl rfl (gj_nil rfl)))))) (gj_yes rfl rfl rfl (y_and rfl rfl rfl) rfl rfl (gj_nil rfl)))))))))) (gj_yes rfl rfl rfl (y_or rfl rfl rfl) rfl rfl (gj_nil rfl)))))))))) (gj_yes rfl rfl rfl (y_and rfl rfl rfl) rfl rfl (gj_nil rfl)))))) ?_
            refine gj_step (y_or rfl rfl rfl) rfl rfl rfl (gj_step (y_move rfl) rfl rfl rfl (?_))
            refine gj_g 1 139 140 rfl rfl rfl rfl (fun hg139 => gj_yes rfl rfl rfl (y_call Try.call19 rfl (fun w hp => k_works w)) rfl rfl (gj_nil rfl)) ?_
            refine gj_step (y_and rfl rfl rfl) rfl rfl rfl (gj_step (y_assign rfl) rfl rfl rfl (?_))
            refine gj_nil ?_
            refine ej_th (cj_ret ?_)
            refine ej_ret1 rfl Try.results11 rfl (fun w' hp => ⟨?_, hp.below⟩)
            cases hb2 : (opnV s q tl).testBit m with
            | false => simp [hb2]
            | true =>
              obtain ⟨f1, f2⟩ := hfin hb2
              rcases f2 with f2 | ⟨f2, f3⟩
              · rw [enC] at f2
                simp [hb2, f1, f2]
              · simp [hb2, f1, f2, f3]

end Go.Proofs.Ytomidcehahdmbaa
