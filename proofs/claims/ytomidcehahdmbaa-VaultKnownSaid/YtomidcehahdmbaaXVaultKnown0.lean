/- Texts of ours, joined: 15 of them. Conditions: none. -/
import Derived.Test.YtomidcehahdmbaaZh
import Derived.Test.YtomidcehahdmbaaProg
import Derived.Laws.StructEq
namespace Go.Proofs.Ytomidcehahdmbaa
open Go Go.Sx Go.RowKit Vm
section
variable {C : Cx} {Q : Exit → Act → World → Prop} {L : Regs} {O S : List Fact} {ty : TypeId} {pos : String} {aft : Array Edge} {dst : Option Tmp} {gu : Option (Nat × Bool)} {x y : Operand}
theorem y_minR {ts : Array TypeId} {k : IntKind} {m n : Int} (hx : val L x = some (.int k m)) (hy : val L y = some (.int k n)) (h : n ≤ m) : Yi C ⟨dst, .call ⟨.builtin .min, #[x, y], ts⟩, ty, pos, aft, gu⟩ L O S (.int k n) := by
  have h1 := y_min (C := C) (O := O) (S := S) (dst := dst) (ty := ty) (pos := pos) (aft := aft) (gu := gu) (ts := ts) hx hy
  rw [Int.min_eq_right h] at h1
  exact h1
end
theorem meet_V {x q : Nat} (hx : x < 64) : (((x &&& q : Nat) : Int) != 0) = meetN x q := by
  rw [Bool.eq_iff_iff]
  unfold meetN
  rw [List.any_eq_true]
  constructor
  · intro h
    have h0 : x &&& q ≠ 0 := by
      intro e
      rw [e] at h
      exact absurd h (by decide)
    obtain ⟨i, hi⟩ := Nat.exists_testBit_of_ne_zero h0
    rw [Nat.testBit_and, Bool.and_eq_true] at hi
    refine ⟨i, List.mem_range.2 ?_, by rw [hi.1, hi.2]; rfl⟩
    refine Nat.lt_of_not_le fun h8 => ?_
    have := Nat.testBit_lt_two_pow (show x < 2 ^ i from Nat.lt_of_lt_of_le hx (Nat.le_trans (by decide : 64 ≤ 2 ^ 8) (Nat.pow_le_pow_right (by decide) h8)))
    rw [hi.1] at this; cases this
  · rintro ⟨i, _, hi⟩
    rw [← Nat.testBit_and] at hi
    have h0 : x &&& q ≠ 0 := by
      intro e
      rw [e, Nat.zero_testBit] at hi; cases hi
    simpa using h0
/-- None of the sets holds another one. -/
def ApartL (l : List Nat) : Prop := ∀ (i k : Nat) a b, i ≠ k → l[i]? = some a → l[k]? = some b → hasN b a = false
theorem apart_min {l : List Nat} (hl : ∀ x ∈ l, x < 64) : ApartL (minL l) := fun i k a b hik ha hb => by
  cases h : hasN b a with
  | false => rfl
  | true =>
    have hne : a ≠ b := by
      intro e
      subst e
      have hi := (List.getElem?_eq_some_iff.1 ha).1
      exact hik ((List.getElem?_inj hi (minL_nodup l)).1 (ha.trans hb.symm))
    exact absurd (hasN_iff.1 h) (minL_apart hl (List.mem_of_getElem? ha) (List.mem_of_getElem? hb) hne)
theorem any_take {α : Type} (q : α → Bool) {l : List α} {k : Nat} {x : α} (h : l[k]? = some x) : (l.take (k + 1)).any q = ((l.take k).any q || q x) := by
  rw [List.take_add_one, h, Option.toList_some, List.any_append]; simp
theorem all_take {α : Type} (q : α → Bool) {l : List α} {k : Nat} {x : α} (h : l[k]? = some x) : (l.take (k + 1)).all q = ((l.take k).all q && q x) := by
  rw [List.take_add_one, h, Option.toList_some, List.all_append]; simp
end Go.Proofs.Ytomidcehahdmbaa
namespace Go.Proofs.Ytomidcehahdmbaa
open Go.Sx Go.RowKit
set_option maxRecDepth 20000

end Go.Proofs.Ytomidcehahdmbaa
namespace Go.Proofs.Ytomidcehahdmbaa
open Go.Sx Go.RowKit Vm
set_option maxRecDepth 20000
theorem k_inS (a b : Nat) (w : World) (ha : a ≤ 9223372036854775807) (hb : b ≤ 9223372036854775807) : Calls Try.prog 25 #[.int .i64 (a : Nat), .int .i64 (b : Nat)] w (fun e w' => e = .returned (.bool (hasN b a)) ∧ Grow w w') := by
  refine enter_pure (args := [.int .i64 (a : Nat), .int .i64 (b : Nat)]) [] Try.func25 rfl (by rw [Try.ntmps25]; simp) (by simp) ?_
  refine cj_seq ?_
  refine cj_regionG (gj_step (y_assign rfl) rfl rfl rfl (gj_nil ?_))
  refine ej_th (cj_seq ?_)
  refine cj_regionG (gj_step (y_move rfl) rfl rfl rfl (gj_step (y_move rfl) rfl rfl rfl (gj_step (y_andN rfl rfl (by omega) (by omega)) rfl rfl rfl (gj_step (y_move rfl) rfl rfl rfl (gj_step (y_eql rfl rfl) rfl rfl rfl (gj_step (y_assign rfl) rfl rfl rfl (gj_nil ?_)))))))
  refine ej_th (cj_ret ?_)
  refine ej_ret1 rfl Try.results25 rfl (fun w' hp => ⟨?_, hp.below⟩)
  congr 2
  unfold hasN
  rw [Bool.eq_iff_iff, decide_eq_true_iff, beq_iff_eq]
  omega

theorem k_least2 (l : List Nat) (A : Option Addr) (c : Nat) (w : World) (hl : Rd w 1 enInt A (intsL l)) (hap : ApartL l) (h64 : ∀ x ∈ l, x < 64) : Calls Try.prog 28 #[.slice A (intsL l).length c] w (fun e w' => e = .returned (.bool true) ∧ Grow w w') := by
  have hel := enC l
  have hll := hl.len
  rw [hel] at hll
  refine enter_pure (args := [.slice A (intsL l).length c]) [sl (fun b => b < w.heap.size) 1 enInt A (intsL l)] Try.func28 rfl (by rw [Try.ntmps28]; simp) (fun g hg => by simp at hg; subst hg; exact ⟨hl, fun _ h => h⟩) ?_
  refine cj_seq ?_
  refine cj_regionG (gj_step (y_assign rfl) rfl rfl rfl (gj_nil ?_))
  refine ej_th (cj_seq (cj_seq ?_))
  refine cj_regionG (gj_step (y_assign rfl) rfl rfl rfl (gj_nil ?_))
  refine ej_th (cj_block ?_)
  refine cj_lpic (X := Nat) [(0, _)] (fun i => i ≤ l.length) (fun i => [(3, .int .i64 (i : Nat))]) (fun i => l.length - i) 0 (Nat.zero_le _) ⟨rfl, rfl, trivial⟩ ?_
  rintro i hi
  dsimp only [List.cons_append, List.nil_append]
  refine cj_seq (cj_seq ?_)
  refine cj_regionG (gj_step (y_move rfl) rfl rfl rfl (gj_step (y_move rfl) rfl rfl rfl (gj_step (y_lenA Try.underlying24 rfl) rfl rfl rfl (gj_step (y_lss rfl rfl) rfl rfl rfl (gj_nil ?_)))))
  refine ej_th ?_
  refine cj_cond rfl (fun h8 => ?_) (fun h8 => ?_)
  · have h8b := h8
    try simp only [sxb] at h8
    obtain ⟨x, hx⟩ : ∃ x, l[i]? = some x := ⟨_, List.getElem?_eq_getElem (by omega)⟩
    have hx64 := h64 x (List.mem_of_getElem? hx)
    refine cj_skip (ej_th (cj_seq (cj_block (cj_seq ?_))))
    refine cj_regionG (gj_step (y_assign rfl) rfl rfl rfl (gj_nil ?_))
    refine ej_th (cj_block ?_)
    refine cj_lpic (X := Nat) [(3, _), (0, _)] (fun j => j ≤ l.length) (fun j => [(4, .int .i64 (j : Nat))]) (fun j => l.length - j) 0 (Nat.zero_le _) ⟨rfl, rfl, rfl, trivial⟩ ?_
    rintro j hj
    dsimp only [List.cons_append, List.nil_append]
    refine cj_seq (cj_seq ?_)
    refine cj_regionG (gj_step (y_move rfl) rfl rfl rfl (gj_step (y_move rfl) rfl rfl rfl (gj_step (y_lenA Try.underlying24 rfl) rfl rfl rfl (gj_step (y_lss rfl rfl) rfl rfl rfl (gj_nil ?_)))))
    refine ej_th ?_
    refine cj_cond rfl (fun h14 => ?_) (fun h14 => ?_)
    · have h14b := h14
      try simp only [sxb] at h14
      obtain ⟨y, hy⟩ : ∃ y, l[j]? = some y := ⟨_, List.getElem?_eq_getElem (by omega)⟩
      have hy64 := h64 y (List.mem_of_getElem? hy)
      refine cj_skip (ej_th (cj_seq (cj_block (cj_seq ?_))))
      refine cj_draw (by kernel_rfl) (by kernel_rfl) ?_
      refine gj_step (y_move rfl) rfl rfl rfl (gj_step (y_move rfl) rfl rfl rfl (gj_step (y_neq rfl rfl) rfl rfl rfl (gj_step (y_move rfl) rfl rfl rfl (?_))))
      refine gj_g 9 20 29 rfl rfl rfl rfl (fun hg20 => gj_yes rfl rfl rfl (y_move rfl) rfl rfl (gj_yes rfl rfl rfl (y_move rfl) rfl rfl (gj_yes rfl rfl rfl (y_ixR (reads_sl) Try.underlying24 Try.sizeOf3 rfl rfl (⟨by omega, by omega⟩)) rfl rfl (gj_yes rfl rfl rfl (y_ld0 (reads_sl) Try.isAgg3 rfl (get_ints hx) rfl) rfl rfl (gj_yes rfl rfl rfl (y_move rfl) rfl rfl (gj_yes rfl rfl rfl (y_move rfl) rfl rfl (gj_yes rfl rfl rfl (y_ixR (reads_sl) Try.underlying24 Try.sizeOf3 rfl rfl (⟨by omega, by omega⟩)) rfl rfl (gj_yes rfl rfl rfl (y_ld0 (reads_sl) Try.isAgg3 rfl (get_ints hy) rfl) rfl rfl (gj_yes rfl rfl rfl (y_call Try.call25 rfl (fun w hp => k_inS x y w (by omega) (by omega))) rfl rfl (gj_nil rfl)))))))))) ?_
      refine gj_step (y_and rfl rfl rfl) rfl rfl rfl (?_)
      refine gj_nil ?_
      refine ej_th ?_
      refine cj_cond rfl (fun h30 => ?_) (fun h30 => ?_)
      · rw [Bool.and_eq_true] at h30
        have hij : i ≠ j := by have h9 := h30.1; simp at h9; omega
        have h9 := hap i j x y hij hx hy
        rw [h9] at h30; exact absurd h30.2 (by simp)
      · have h30b := h30
        try simp only [sxb] at h30
        refine cj_skip (ej_blk (ej_th ?_))
        refine cj_regionG (gj_step (y_move rfl) rfl rfl rfl (gj_step (y_add rfl rfl (by omega)) rfl rfl rfl (gj_step (y_assign rfl) rfl rfl rfl (gj_nil ?_))))
        exact ej_nx (j + 1) (by omega) (by omega) ⟨rfl, rfl, rfl, trivial⟩
    · have h14b := h14
      try simp only [sxb] at h14
      refine cj_exit (ej_then_exit (ej_then_exit (ej_blk_hit (ej_blk (ej_th ?_)))))
      refine cj_regionG (gj_step (y_move rfl) rfl rfl rfl (gj_step (y_add rfl rfl (by omega)) rfl rfl rfl (gj_step (y_assign rfl) rfl rfl rfl (gj_nil ?_))))
      exact ej_nx (i + 1) (by omega) (by omega) ⟨rfl, rfl, trivial⟩
  · have h8b := h8
    try simp only [sxb] at h8
    refine cj_exit (ej_then_exit (ej_then_exit (ej_blk_hit (ej_th (cj_seq ?_)))))
    refine cj_regionG (gj_step (y_assign rfl) rfl rfl rfl (gj_nil ?_))
    refine ej_th (cj_ret ?_)
    exact ej_ret1 rfl Try.results28 rfl (fun w' hp => ⟨rfl, hp.below⟩)

end Go.Proofs.Ytomidcehahdmbaa
namespace Go.Proofs.Ytomidcehahdmbaa
open Go.Sx Go.RowKit
set_option maxRecDepth 20000

end Go.Proofs.Ytomidcehahdmbaa
namespace Go.Proofs.Ytomidcehahdmbaa
open Go.Sx Go.RowKit Vm
set_option maxRecDepth 20000
theorem k_Ring (n m : Int) (w : World) (hm : m ≤ 4611686018427387904) : Calls Try.prog 33 #[.int .i64 n, .int .i64 m] w (fun e w' => e = .returned (.int .i64 (ringI n m)) ∧ Grow w w') := by
  refine enter_pure (args := [.int .i64 n, .int .i64 m]) [] Try.func33 rfl (by rw [Try.ntmps33]; simp) (by simp) ?_
  refine cj_seq ?_
  refine cj_regionG (gj_step (y_assign rfl) rfl rfl rfl (gj_nil ?_))
  refine ej_th (cj_seq (cj_seq ?_))
  refine cj_regionG (gj_step (y_move rfl) rfl rfl rfl (gj_step (y_leq rfl rfl) rfl rfl rfl (gj_nil ?_)))
  refine ej_th ?_
  refine cj_cond rfl (fun h6 => ?_) (fun h6 => ?_)
  · have h6b := h6
    try simp only [sxb] at h6
    refine cj_seq ?_
    refine cj_regionG (gj_step (y_assign rfl) rfl rfl rfl (gj_nil ?_))
    refine ej_th (cj_ret (ej_then_ret ?_))
    refine ej_ret1 rfl Try.results33 rfl (fun w' hp => ⟨?_, hp.below⟩)
    rw [ringI, if_pos h6]
  · have h6b := h6
    try simp only [sxb] at h6
    refine cj_skip (ej_th (cj_seq ?_))
    refine cj_regionG (gj_step (y_move rfl) rfl rfl rfl (gj_step (y_move rfl) rfl rfl rfl (gj_step (y_remw rfl rfl (by omega)) rfl rfl rfl (gj_step (y_move rfl) rfl rfl rfl (gj_step (y_add rfl rfl (by have h1 := Int.tmod_lt_of_pos n (show 0 < m by omega); have h2 := Int.lt_tmod_of_pos n (show 0 < m by omega); omega)) rfl rfl rfl (gj_step (y_move rfl) rfl rfl rfl (gj_step (y_remw rfl rfl (by omega)) rfl rfl rfl (gj_step (y_assign rfl) rfl rfl rfl (gj_nil ?_)))))))))
    refine ej_th (cj_ret ?_)
    refine ej_ret1 rfl Try.results33 rfl (fun w' hp => ⟨?_, hp.below⟩)
    rw [ringI, if_neg (by omega)]

end Go.Proofs.Ytomidcehahdmbaa
namespace Vm
open Go.Proofs.Ytomidcehahdmbaa
theorem play_of {s : Str} {l : List CarryV} (hs : strB s = true) (hl : logB s l = true) : playE s l = (run s log0 l).2.2 ∧ playAt s l = (run s log0 l).2.1 := by
  unfold playE playAt
  rw [if_pos hs, if_pos hl, if_pos hs, if_pos hl]
  exact ⟨rfl, rfl⟩
theorem play_run {s : Str} {l : List CarryV} (h : playE s l = 0) : (run s log0 l).2.2 = 0 ∧ playB s l = (run s log0 l).1.bags ∧ playAt s l = l.length := by
  obtain ⟨hs, hl, _⟩ := play_0 h
  obtain ⟨h1, h2⟩ := play_of hs hl
  rw [h] at h1
  refine ⟨h1.symm, by unfold playB; rw [if_pos h], ?_⟩
  rw [h2, run_at s l log0 h1.symm]
theorem play_take {s : Str} {l : List CarryV} (h : playE s l = 0) {k : Nat} (hk : k ≤ l.length) : playE s (l.take k) = 0 ∧ playAt s (l.take k) = k := by
  obtain ⟨hs, hl, _⟩ := play_0 h
  have h1 := (play_run h).1
  have h2 := run_take s l log0 k h1
  obtain ⟨h3, _⟩ := play_of hs (logB_take hl k)
  have h4 : playE s (l.take k) = 0 := h3.trans h2
  refine ⟨h4, ?_⟩
  rw [(play_run h4).2.2, List.length_take, Nat.min_eq_left hk]
theorem run_step {s : Str} {st : LogV} {l : List CarryV} {k : Nat} {c : CarryV} (h : (run s st l).2.2 = 0) (hc : l[k]? = some c) : stepE s (run s st (l.take k)).1 c = 0 ∧ (run s st (l.take (k + 1))).1 = stepN (run s st (l.take k)).1 c := by
  have h1 := run_take s l st k h
  have h2 := run_take s l st (k + 1) h
  rw [List.take_add_one, hc, Option.toList_some] at h2 ⊢
  rw [run_snoc s _ _ _ h1] at h2 ⊢
  by_cases e : stepE s (run s st (l.take k)).1 c = 0
  · rw [if_pos e]
    exact ⟨e, rfl⟩
  · rw [if_neg e] at h2
    exact absurd h2 e
theorem play_next {s : Str} {l : List CarryV} {k : Nat} {c : CarryV} (h : playE s l = 0) (hc : l[k]? = some c) : playB s (l.take (k + 1)) = (playB s (l.take k)).set c.bag.toNat (newBag ((playB s (l.take k)).getD c.bag.toNat bag0) c) := by
  have hk : k < l.length := (List.getElem?_eq_some_iff.1 hc).1
  have h1 := (play_take h (k := k) (by omega)).1
  have h2 := (play_take h (k := k + 1) (by omega)).1
  rw [(play_run h1).2.1, (play_run h2).2.1, (run_step (play_run h).1 hc).2]
  rfl
theorem set_back {l : List BagV} {n : Nat} (u : BagV) (hn : n < l.length) : (l.set n u).set n (l.getD n bag0) = l := by
  rw [List.set_set, List.getD_eq_getElem?_getD, List.getElem?_eq_getElem hn, Option.getD_some, List.set_getElem_self]
theorem part_law {s : Str} {l : List CarryV} {k : Nat} {c : CarryV} (h : playE s l = 0) (hc : l[k]? = some c) (hb : 0 ≤ c.bag ∧ c.bag ≤ 31) : (playB s (l.take (k + 1))).set c.bag.toNat ((playB s (l.take k)).getD c.bag.toNat bag0) = playB s (l.take k) := by
  rw [play_next h hc]
  exact set_back _ (by rw [playB_len]; omega)
end Vm
namespace Go.Proofs.Ytomidcehahdmbaa
open Go Go.Sx Go.RowKit Vm
theorem tk_at {l : List BagV} (h : l.length = 32) {n : Int} (hn : 0 ≤ n ∧ n ≤ 31) : Tk 5 (0 + n.toNat * 5) (l.flatMap encBa) (encBa (l.getD n.toNat bag0)) := by
  rw [Nat.zero_add]
  exact tk_bag (bf_at h hn)
theorem set_at {l : List BagV} (h : l.length = 32) {n : Int} (hn : 0 ≤ n ∧ n ≤ 31) (u : BagV) : SetC (0 + n.toNat * 5) (encBa u) (l.flatMap encBa) ((l.set n.toNat u).flatMap encBa) := by
  have hb := bf_at h hn
  rw [flat_split encBa _ _ _ hb, flat_set encBa _ _ _ u hb]
  refine setC_mid _ (encBa (l.getD n.toNat bag0)) (encBa u) _ rfl ?_
  rw [flatMap_len encBa 5 enBa_len, List.length_take, h]
  omega
theorem encCa_one (x : CarryV) : ∀ v ∈ encCa x, v.oneCell' = true := by
  intro v hv
  simp only [encCa, List.mem_cons, List.mem_nil_iff, or_false] at hv
  rcases hv with rfl | rfl | rfl | rfl | rfl | rfl | rfl | rfl <;> rfl
end Go.Proofs.Ytomidcehahdmbaa
namespace Vm
open Go.Proofs.Ytomidcehahdmbaa
def roomK (s : Str) (l : List CarryV) (bag : Int) (k : Nat) : Int := ((playB s (l.take k)).getD bag.toNat bag0).room
theorem getD_set_ne {l : List BagV} {i j : Nat} (h : i ≠ j) (u : BagV) : (l.set i u).getD j bag0 = l.getD j bag0 := by
  rw [List.getD_eq_getElem?_getD, List.getD_eq_getElem?_getD, List.getElem?_set_ne h]
theorem getD_set_eq {l : List BagV} {i : Nat} (h : i < l.length) (u : BagV) : (l.set i u).getD i bag0 = u := by
  rw [List.getD_eq_getElem?_getD, List.getElem?_set_self h]; rfl
theorem play_bag (s : Str) (l : List CarryV) (n : Int) (hn : 0 ≤ n ∧ n ≤ 31) : (playB s l)[n.toNat]? = some ((playB s l).getD n.toNat bag0) := by
  have hlt : n.toNat < (playB s l).length := by rw [playB_len]; omega
  rw [List.getD_eq_getElem?_getD, List.getElem?_eq_getElem hlt]; rfl
theorem play_inv {s : Str} {l : List CarryV} (h : playE s l = 0) : Inv s (run s log0 l).1 := by
  obtain ⟨hs, hl, _⟩ := play_0 h
  exact Inv.run hs l log0 (Inv.start hs) (log_ok hl)
/-- What a valid carry that was done has shown. -/
theorem play_done {s : Str} {l : List CarryV} {k : Nat} {c : CarryV} (h : playE s l = 0) (hc : l[k]? = some c) : COk s c ∧ Done s (run s log0 (l.take k)).1 c ∧ (bagAt (run s log0 (l.take k)).1 c.bag) = (playB s (l.take k)).getD c.bag.toNat bag0 ∧ Inv s (run s log0 (l.take k)).1 := by
  have hk : k < l.length := (List.getElem?_eq_some_iff.1 hc).1
  have hco := log_ok (play_0 h).2.1 c (List.mem_of_getElem? hc)
  have h1 := (play_take h (k := k) (by omega)).1
  refine ⟨hco, Done.of hco.kind (run_step (play_run h).1 hc).1, ?_, play_inv h1⟩
  rw [(play_run h1).2.1]; rfl
theorem roomK_0 (s : Str) (l : List CarryV) (bag : Int) (hb : 0 ≤ bag ∧ bag ≤ 31) : roomK s l bag 0 = 0 := by
  have e : playB s (l.take 0) = bags0 := by
    unfold playB
    split
    · rw [List.take_zero]; rfl
    · rfl
  unfold roomK
  rw [e, List.getD_eq_getElem?_getD, List.getElem?_replicate, if_pos (by omega)]; rfl
theorem roomK_no {s : Str} {l : List CarryV} {bag : Int} {k : Nat} {c : CarryV} (h : playE s l = 0) (hb : 0 ≤ bag) (hc : l[k]? = some c) (e : c.bag ≠ bag) : roomK s l bag (k + 1) = roomK s l bag k := by
  have h1 := (log_ok (play_0 h).2.1 c (List.mem_of_getElem? hc)).bag
  unfold roomK
  rw [play_next h hc, getD_set_ne (by omega)]
theorem roomK_yes {s : Str} {l : List CarryV} {bag : Int} {k : Nat} {c : CarryV} (h : playE s l = 0) (hb : 0 ≤ bag ∧ bag ≤ 31) (hc : l[k]? = some c) (e : c.bag = bag) :
    (c.kind = 1 ∨ c.kind = 2 → roomK s l bag (k + 1) = c.to_) ∧ (c.kind = 3 ∨ c.kind = 4 → roomK s l bag (k + 1) = roomK s l bag k) ∧ (c.kind = 5 → roomK s l bag (k + 1) = 0) ∧ (c.kind ≠ 1 → roomK s l bag k ≠ 0) ∧ 1 ≤ c.kind ∧ c.kind ≤ 5 := by
  obtain ⟨hco, hd, hbg, _⟩ := play_done h hc
  have hr : roomK s l bag (k + 1) = (newBag ((playB s (l.take k)).getD bag.toNat bag0) c).room := by
    unfold roomK
    rw [play_next h hc, e, getD_set_eq (by rw [playB_len]; omega)]
  rw [e] at hbg
  have hz : roomK s l bag k = (bagAt (run s log0 (l.take k)).1 c.bag).room := by rw [e, hbg]; rfl
  refine ⟨fun hk => ?_, fun hk => ?_, fun hk => ?_, fun hk => ?_, hco.kind⟩
  · rw [hr, newBag]
    rcases hk with hk | hk
    · rw [if_pos hk]
    · rw [if_neg (by omega), if_pos hk]
  · rw [hr, newBag, if_neg (by omega), if_neg (by omega)]
    rcases hk with hk | hk
    · rw [if_pos hk]; rfl
    · rw [if_neg (by omega), if_pos hk]; rfl
  · rw [hr, newBag, if_neg (by omega), if_neg (by omega), if_neg (by omega), if_neg (by omega)]
  · rw [hz]
    cases hd with
    | in_ k1 => exact absurd k1 hk
    | move _ h1 => exact h1
    | check _ h1 => exact h1
    | open_ _ h1 => exact h1
    | out _ h1 => exact h1
theorem since_last {s : Str} {l : List CarryV} {bag : Int} (h : playE s l = 0) (hb : 0 ≤ bag ∧ bag ≤ 31) : ∀ k, k ≤ l.length → roomK s l bag k ≠ 0 → roomK s l bag k ∈ sinceL s l bag k
  | 0, _, hr => absurd (roomK_0 s l bag hb) hr
  | k + 1, hk, hr => by
    have hc : l[k]? = some l[k] := List.getElem?_eq_getElem hk
    by_cases e : (l[k]).bag = bag
    · rw [since_yes hc e]
      exact List.mem_append_right _ (List.mem_singleton.2 rfl)
    · rw [since_no hc e, roomK_no h hb.1 hc e]
      rw [roomK_no h hb.1 hc e] at hr
      exact since_last h hb k (by omega) hr
theorem susp_0 {s : Str} {l : List CarryV} {bag : Int} (h : suspE s l bag = 0) : playE s l = 0 ∧ (0 ≤ bag ∧ bag ≤ 31) ∧ roomK s l bag l.length ≠ 0 := by
  unfold suspE at h
  by_cases h1 : playE s l = 0
  · rw [if_pos h1] at h
    by_cases h2 : btw 0 bag 31 = true
    · rw [if_pos h2] at h
      refine ⟨h1, btw_t.1 h2, fun h3 => ?_⟩
      unfold roomK at h3
      rw [List.take_length] at h3
      rw [if_pos h3] at h; omega
    · rw [if_neg h2] at h; omega
  · rw [if_neg h1] at h; exact absurd h h1
theorem susp_lt {s : Str} (l : List Int) : ∀ x ∈ l.flatMap fun r => groupsV s r.toNat, x < 64 := fun x hx => by
  obtain ⟨r, _, hr⟩ := List.mem_flatMap.1 hx
  exact minL_lt hr
/-- Whoever was in one of the rooms is a suspect. -/
theorem swap_law {s : Str} {l : List CarryV} {bag : Int} (h : suspE s l bag = 0) {r : Int} (hr : r ∈ sinceL s l bag l.length) {g : Nat} (hg : g < 2 ^ s.staff.length) (hb : (reachV s g).testBit r.toNat = true) : (suspV s l bag).any (fun x => hasN g x) = true := by
  obtain ⟨h1, h2, _⟩ := susp_0 h
  obtain ⟨hs, _, _⟩ := play_0 h1
  rw [reach_some hs hg, List.any_eq_true] at hb
  obtain ⟨x, hx, hxg⟩ := hb
  have hF := susp_lt (s := s) (sinceL s l bag l.length)
  obtain ⟨t, ht, hts⟩ := minL_under hF (List.mem_flatMap.2 ⟨r, hr, hx⟩)
  rw [List.any_eq_true]
  refine ⟨t, by rw [suspV, if_pos h]; exact ht, ?_⟩
  rw [hasN_iff] at hxg ⊢
  exact hts.trans hxg
theorem bag_ok {s : Str} {l : List CarryV} {bag : Int} (h : playE s l = 0) (hb : 0 ≤ bag ∧ bag ≤ 31) (hr : roomK s l bag l.length ≠ 0) : ∃ m, BagOk s m ((playB s l).getD bag.toNat bag0) := by
  have hI := play_inv h
  have h1 := play_bag s l bag hb
  unfold roomK at hr
  rw [List.take_length] at hr
  rw [(play_run h).2.1] at h1 hr ⊢
  exact ⟨_, (hI.bags _ _ h1 hr).1⟩
theorem susp_some {s : Str} {l : List CarryV} {bag : Int} (h : suspE s l bag = 0) : suspV s l bag ≠ [] := by
  obtain ⟨h1, h2, h3⟩ := susp_0 h
  obtain ⟨hs, hl, _⟩ := play_0 h1
  obtain ⟨m, hk⟩ := bag_ok h1 h2 h3
  have hg : 2 ^ ((playB s l).getD bag.toNat bag0).by_.toNat ||| 2 ^ ((playB s l).getD bag.toNat bag0).with_.toNat < 2 ^ s.staff.length := by
    have := hk.by_
    have := hk.with_
    exact Nat.or_lt_two_pow (Nat.pow_lt_pow_right (by decide) (by omega)) (Nat.pow_lt_pow_right (by decide) (by omega))
  have h4 := swap_law h (since_last h1 h2 l.length (Nat.le_refl _) h3) hg (by unfold roomK; rw [List.take_length]; exact hk.reach)
  intro e
  rw [e] at h4
  cases h4
/-- A check behind valid carries. -/
theorem swap_check {s : Str} {l : List CarryV} {bag d wrong : Int} (h : suspE s l bag = 0) (hd : (l.getLast?.map (·.day)) = some d) (hw : 1 ≤ wrong ∧ wrong ≤ 999999) (b : BagV) (hb : (playB s l).getD bag.toNat bag0 = b) :
    (64 ≤ l.length → playE s (l ++ [⟨d, 3, bag, 0, b.by_, b.with_, wrong, 0⟩]) = 43)
    ∧ (l.length < 64 → (wrong = b.mark → playE s (l ++ [⟨d, 3, bag, 0, b.by_, b.with_, wrong, 0⟩]) = 0) ∧ (wrong ≠ b.mark → playE s (l ++ [⟨d, 3, bag, 0, b.by_, b.with_, wrong, 0⟩]) = 48 ∧ playAt s (l ++ [⟨d, 3, bag, 0, b.by_, b.with_, wrong, 0⟩]) = l.length)) := by
  obtain ⟨h1, h2, h3⟩ := susp_0 h
  obtain ⟨hs, hl, hl64⟩ := play_0 h1
  obtain ⟨m, hk⟩ := bag_ok h1 h2 h3
  rw [hb] at hk
  generalize hc : (⟨d, 3, bag, 0, b.by_, b.with_, wrong, 0⟩ : CarryV) = c
  refine ⟨fun h64 => ?_, fun h64 => ?_⟩
  · have : logB s (l ++ [c]) = false := by
      unfold logB
      rw [Bool.and_eq_false_iff, decide_eq_false_iff_not, List.length_append]
      right
      simp only [List.length_cons, List.length_nil]; omega
    unfold playE
    rw [if_pos hs, if_neg (by rw [this]; simp)]
  · have hne : l ≠ [] := by
      intro e
      rw [e] at hd; cases hd
    obtain ⟨x, hx⟩ : ∃ x, l.getLast? = some x := ⟨_, List.getLast?_eq_some_getLast hne⟩
    have hxd : x.day = d := by rw [hx] at hd; simpa using hd
    have hxo := log_ok hl x (List.mem_of_getLast? hx)
    have hd2 : d ≤ 36500 := by rw [← hxd]; exact hxo.day
    have hlb : logB s (l ++ [c]) = true := by
      unfold logB at hl ⊢
      rw [Bool.and_eq_true] at hl ⊢
      refine ⟨?_, by rw [decide_eq_true_iff, List.length_append]; simp only [List.length_cons, List.length_nil]; omega⟩
      rw [formB_app, hl.1, hd, Bool.true_and]
      show formB s d [c] = true
      rw [formB, formB, Bool.and_true]
      subst hc
      have k1 := hk.by_
      have k2 := hk.with_
      unfold carryB kindB
      simp only [Bool.and_eq_true, btw_t, Bool.not_eq_true', decide_eq_false_iff_not]
      refine ⟨⟨⟨⟨⟨⟨Int.le_refl _, hd2⟩, h2⟩, by omega⟩, by omega⟩, hk.ne⟩, ?_⟩
      have hw9 : btw 1 wrong 999999 = true := btw_t.2 hw
      simp [hw9]
    obtain ⟨p1, p2⟩ := play_of hs hlb
    have hr := run_snoc s l log0 c (play_run h1).1
    have hba : bagAt (run s log0 l).1 c.bag = b := by
      subst hc
      rw [← hb, (play_run h1).2.1]; rfl
    have hst : stepE s (run s log0 l).1 c = if b.mark = wrong then 0 else 48 := by
      unfold stepE
      rw [hba]
      have hrm := hk.room
      have hrc : (reachC s c).testBit b.room.toNat = true := by subst hc; exact hk.reach
      have hk3 : c.kind = 3 := by subst hc; rfl
      have hmk : c.mark = wrong := by subst hc; rfl
      rw [if_neg (by omega), if_neg (by omega), if_pos hrc, if_neg (by omega), if_pos hk3, hmk]
    rw [p1, p2, hr, hst]
    refine ⟨fun e => ?_, fun e => ?_⟩
    · rw [if_pos e.symm, if_pos rfl]
    · rw [if_neg (Ne.symm e), if_neg (by decide)]
      exact ⟨rfl, rfl⟩
/-! the law's loops -/
structure Sw (s : Str) (l : List CarryV) (bag : Int) (k : Nat) (rs : List Int) : Prop where
  le : k ≤ l.length
  rms : sinceL s l bag l.length = sinceL s l bag k ++ rs.reverse
  ne : roomK s l bag k ≠ 0
theorem Sw.start {s : Str} {l : List CarryV} {bag : Int} (h : suspE s l bag = 0) : Sw s l bag l.length [] := ⟨Nat.le_refl _, by simp, (susp_0 h).2.2⟩
theorem Sw.other {s : Str} {l : List CarryV} {bag : Int} (h : suspE s l bag = 0) {k : Nat} {rs : List Int} (hw : Sw s l bag (k + 1) rs) {c : CarryV} (hc : l[k]? = some c) (e : c.bag ≠ bag) : Sw s l bag k rs := by
  obtain ⟨h1, h2, _⟩ := susp_0 h
  exact ⟨by have := hw.le; omega, by rw [hw.rms, since_no hc e], by rw [← roomK_no h1 h2.1 hc e]; exact hw.ne⟩
theorem Sw.move {s : Str} {l : List CarryV} {bag : Int} (h : suspE s l bag = 0) {k : Nat} {rs : List Int} (hw : Sw s l bag (k + 1) rs) {c : CarryV} (hc : l[k]? = some c) (e : c.bag = bag) (k2 : c.kind = 2) : Sw s l bag k (rs ++ [c.to_]) := by
  obtain ⟨h1, h2, _⟩ := susp_0 h
  obtain ⟨p1, _, _, p4, _⟩ := roomK_yes h1 h2 hc e
  refine ⟨by have := hw.le; omega, ?_, p4 (by omega)⟩
  rw [hw.rms, since_yes hc e, if_pos k2]
  have : ((playB s (l.take (k + 1))).getD bag.toNat bag0).room = c.to_ := p1 (.inr k2)
  rw [this]; simp
theorem Sw.in_ {s : Str} {l : List CarryV} {bag : Int} (h : suspE s l bag = 0) {k : Nat} {rs : List Int} (hw : Sw s l bag (k + 1) rs) {c : CarryV} (hc : l[k]? = some c) (e : c.bag = bag) (k1 : c.kind = 1) : sinceL s l bag l.length = (rs ++ [c.to_]).reverse := by
  obtain ⟨h1, h2, _⟩ := susp_0 h
  obtain ⟨p1, _⟩ := roomK_yes h1 h2 hc e
  rw [hw.rms, since_yes hc e, if_neg (by omega)]
  have : ((playB s (l.take (k + 1))).getD bag.toNat bag0).room = c.to_ := p1 (.inl k1)
  rw [this]; simp
/-- Behind a check: the place is the one into which it was brought before. -/
structure Sx_ (s : Str) (l : List CarryV) (bag : Int) (r : Int) (k : Nat) : Prop where
  le : k ≤ l.length
  at_ : roomK s l bag k = r
  ne : r ≠ 0
theorem Sw.stay {s : Str} {l : List CarryV} {bag : Int} (h : suspE s l bag = 0) {k : Nat} {rs : List Int} (hw : Sw s l bag (k + 1) rs) {c : CarryV} (hc : l[k]? = some c) (e : c.bag = bag) (k1 : c.kind ≠ 1) (k2 : c.kind ≠ 2) : sinceL s l bag l.length = (rs ++ [roomK s l bag (k + 1)]).reverse ∧ Sx_ s l bag (roomK s l bag (k + 1)) k := by
  obtain ⟨h1, h2, _⟩ := susp_0 h
  obtain ⟨p1, p2, p3, p4, p5⟩ := roomK_yes h1 h2 hc e
  have hne := hw.ne
  have hk : c.kind = 3 ∨ c.kind = 4 := by
    by_cases h5 : c.kind = 5
    · exact absurd (p3 h5) hne
    · omega
  refine ⟨?_, ⟨by have := hw.le; omega, (p2 hk).symm, hne⟩⟩
  rw [hw.rms, since_yes hc e, if_neg k2]
  show [] ++ [roomK s l bag (k + 1)] ++ rs.reverse = _
  simp
theorem Sx_.end_ {s : Str} {l : List CarryV} {bag r : Int} (h : suspE s l bag = 0) (hx : Sx_ s l bag r 0) : False := hx.ne (by rw [← hx.at_]; exact roomK_0 s l bag (susp_0 h).2.1)
theorem Sw.end_ {s : Str} {l : List CarryV} {bag : Int} {rs : List Int} (h : suspE s l bag = 0) (hx : Sw s l bag 0 rs) : False := hx.ne (roomK_0 s l bag (susp_0 h).2.1)
theorem Sx_.found {s : Str} {l : List CarryV} {bag r : Int} (h : suspE s l bag = 0) {k : Nat} (hx : Sx_ s l bag r (k + 1)) {c : CarryV} (hc : l[k]? = some c) (e : c.bag = bag) (hk : c.kind = 1 ∨ c.kind = 2) : c.to_ = r := by
  obtain ⟨h1, h2, _⟩ := susp_0 h
  rw [← hx.at_, (roomK_yes h1 h2 hc e).1 hk]
theorem Sx_.on {s : Str} {l : List CarryV} {bag r : Int} (h : suspE s l bag = 0) {k : Nat} (hx : Sx_ s l bag r (k + 1)) {c : CarryV} (hc : l[k]? = some c) (e : ¬ (c.bag = bag ∧ (c.kind = 1 ∨ c.kind = 2))) : Sx_ s l bag r k := by
  obtain ⟨h1, h2, _⟩ := susp_0 h
  have hle := hx.le
  refine ⟨by omega, ?_, hx.ne⟩
  by_cases eb : c.bag = bag
  · obtain ⟨_, p2, p3, _, p5⟩ := roomK_yes h1 h2 hc eb
    have hn : ¬ (c.kind = 1 ∨ c.kind = 2) := fun hk => e ⟨eb, hk⟩
    have : c.kind ≠ 5 := fun h5 => hx.ne (by rw [← hx.at_, p3 h5])
    rw [← p2 (by omega), hx.at_]
  · rw [← roomK_no h1 h2.1 hc eb, hx.at_]
end Vm
namespace Vm
open Go.Proofs.Ytomidcehahdmbaa
def roomsV (s : Str) (l : List CarryV) (k : Nat) : List Int := (playB s (l.take k)).map (·.room)
theorem rooms_len (s : Str) (l : List CarryV) (k : Nat) : (roomsV s l k).length = 32 := by unfold roomsV; rw [List.length_map, playB_len]
theorem rooms_0 (s : Str) (l : List CarryV) : roomsV s l 0 = List.replicate 32 0 := by
  have e : playB s (l.take 0) = bags0 := by
    unfold playB
    split
    · rw [List.take_zero]; rfl
    · rfl
  unfold roomsV
  rw [e, List.map_replicate]
theorem rooms_at {s : Str} {l : List CarryV} {k : Nat} {n : Int} (hn : 0 ≤ n ∧ n ≤ 31) : (roomsV s l k)[n.toNat]? = some (roomK s l n k) := by
  unfold roomsV roomK
  rw [List.getElem?_map, play_bag s (l.take k) n hn]; rfl
/-- What a carry did to the rooms. -/
theorem rooms_step {s : Str} {l : List CarryV} {k : Nat} {c : CarryV} (h : playE s l = 0) (hc : l[k]? = some c) :
    (c.kind = 1 ∨ c.kind = 2 → roomsV s l (k + 1) = (roomsV s l k).set c.bag.toNat c.to_) ∧ (c.kind = 5 → roomsV s l (k + 1) = (roomsV s l k).set c.bag.toNat 0) ∧ (c.kind = 3 ∨ c.kind = 4 → roomsV s l (k + 1) = roomsV s l k) := by
  have hco := log_ok (play_0 h).2.1 c (List.mem_of_getElem? hc)
  have hb := hco.bag
  have hy := roomK_yes h hb hc rfl
  have hs : roomsV s l (k + 1) = (roomsV s l k).set c.bag.toNat (roomK s l c.bag (k + 1)) := by
    unfold roomsV
    have e : roomK s l c.bag (k + 1) = (newBag ((playB s (l.take k)).getD c.bag.toNat bag0) c).room := by
      unfold roomK
      rw [play_next h hc, getD_set_eq (by rw [playB_len]; omega)]
    rw [e, play_next h hc, List.map_set]
  refine ⟨fun k1 => by rw [hs, hy.1 k1], fun k5 => by rw [hs, hy.2.2.1 k5], fun k3 => ?_⟩
  rw [hs, hy.2.1 k3]
  have h1 := rooms_at (s := s) (l := l) (k := k) hb
  obtain ⟨h2, h3⟩ := List.getElem?_eq_some_iff.1 h1
  rw [← h3, List.set_getElem_self]
theorem room_bd {s : Str} {l : List CarryV} {k : Nat} (n : Int) (hn : 0 ≤ n ∧ n ≤ 31) : 0 ≤ roomK s l n k ∧ roomK s l n k ≤ 5 := play_num (s := s) (l.take k) hn
theorem reach_hall (s : Str) (g : Nat) : (reachV s g).testBit 0 = true := (reachF_sub s g _ 1) 0 (by decide)
/-- Those who carry reach where the bag was, and where it is. -/
theorem rooms_reach {s : Str} {l : List CarryV} {k : Nat} {c : CarryV} (h : playE s l = 0) (hc : l[k]? = some c) : (reachC s c).testBit (roomK s l c.bag k).toNat = true ∧ (reachC s c).testBit (roomK s l c.bag (k + 1)).toNat = true := by
  obtain ⟨hco, hd, hbg, hI⟩ := play_done h hc
  have hb := hco.bag
  have hy := roomK_yes h hb hc rfl
  have hz : roomK s l c.bag k = (bagAt (run s log0 (l.take k)).1 c.bag).room := by rw [hbg]; rfl
  rw [hz]
  cases hd with
  | in_ k1 h1 h2 =>
    rw [hy.1 (.inl k1)]
    refine ⟨?_, h2⟩
    have h9 : (bagAt (run s log0 (l.take k)).1 c.bag).room = 0 := by
      refine Decidable.byContradiction fun hne => ?_
      have h3 := (hI.bags _ _ (bagAt_get hI hb) hne).2
      rw [List.getD_eq_getElem?_getD, h3] at h1; cases h1
    rw [h9]
    exact reach_hall s (grpC c)
  | move k2 h1 h2 h3 => rw [hy.1 (.inr k2)]; exact ⟨h2, h3⟩
  | check k3 h1 h2 => rw [hy.2.1 (.inl k3), hz]; exact ⟨h2, h2⟩
  | open_ k4 h1 h2 => rw [hy.2.1 (.inr k4), hz]; exact ⟨h2, h2⟩
  | out k5 h1 h2 =>
    rw [hy.2.2.1 k5]
    exact ⟨h2, reach_hall s (grpC c)⟩
/-! where -/
theorem fidx_none {α : Type} (q : α → Bool) : ∀ (l : List α) (i : Int), (∀ x ∈ l, q x = false) → fidx q l i = -1
  | [], _, _ => rfl
  | x :: l, i, h => by
    rw [fidx, if_neg (by rw [h x (List.mem_cons_self ..)]; simp)]
    exact fidx_none q l _ fun y hy => h y (List.mem_cons_of_mem _ hy)
theorem fidx_at {α : Type} (q : α → Bool) : ∀ (l : List α) (i : Int) (k : Nat) (y : α), (∀ x ∈ l.take k, q x = false) → l[k]? = some y → q y = true → fidx q l i = i + k
  | [], _, _, _, _, h, _ => by cases h
  | x :: l, i, 0, y, _, h, hy => by
    have e : x = y := by simpa using h
    subst e
    rw [fidx, if_pos hy]; simp
  | x :: l, i, k + 1, y, h, hk, hy => by
    rw [List.take_succ_cons] at h
    rw [fidx, if_neg (by rw [h x (List.mem_cons_self ..)]; simp), fidx_at q l (i + 1) k y (fun z hz => h z (List.mem_cons_of_mem _ hz)) (by simpa using hk) hy]
    omega
theorem days_take {s : Str} {l : List CarryV} (h : logB s l = true) {k : Nat} {c : CarryV} (hc : l[k]? = some c) : 0 ≤ c.day ∧ c.day ≤ 36500 ∧ ∀ x ∈ l.take (k + 1), x.day ≤ c.day := by
  have h9 := h
  unfold logB at h9
  rw [Bool.and_eq_true] at h9
  obtain ⟨h1, h2⟩ := form_days s l 0 h9.1
  refine ⟨h1 c (List.mem_of_getElem? hc), (log_ok h c (List.mem_of_getElem? hc)).day, fun x hx => ?_⟩
  rw [List.take_add_one, hc, Option.toList_some, List.mem_append, List.mem_singleton] at hx
  rcases hx with hx | rfl
  · obtain ⟨i, hi⟩ := List.getElem?_of_mem hx
    rw [List.getElem?_take] at hi
    split at hi
    · rename_i hik
      obtain ⟨a1, a2⟩ := List.getElem?_eq_some_iff.1 hi
      obtain ⟨b1, b2⟩ := List.getElem?_eq_some_iff.1 hc
      rw [← a2, ← b2]
      exact List.pairwise_iff_getElem.1 h2 _ _ _ _ hik
    · cases hi
  · exact Int.le_refl _
theorem upto_at {s : Str} {l : List CarryV} (h : logB s l = true) {k : Nat} {c : CarryV} (hc : l[k]? = some c) (hn : k + 1 = l.length ∨ ∃ d, l[k + 1]? = some d ∧ c.day < d.day) : uptoN l c.day = k + 1 := by
  obtain ⟨_, _, h3⟩ := days_take h hc
  have hq : ∀ x ∈ l.take (k + 1), (decide (c.day < x.day)) = false := fun x hx => by
    rw [decide_eq_false_iff_not]
    have := h3 x hx; omega
  unfold uptoN afterI
  rcases hn with hn | ⟨d, hd, hdd⟩
  · rw [List.take_of_length_le (by omega)] at hq
    rw [fidx_none _ _ _ hq, if_pos (by decide), hn]
  · rw [fidx_at (fun x : CarryV => decide (c.day < x.day)) l 0 (k + 1) d hq hd (decide_eq_true hdd), if_neg (by omega)]
    omega
theorem where_at {s : Str} {l : List CarryV} (h : playE s l = 0) {k : Nat} {c : CarryV} (hc : l[k]? = some c) (hn : k + 1 = l.length ∨ ∃ d, l[k + 1]? = some d ∧ c.day < d.day) {n : Int} (hb : 0 ≤ n ∧ n ≤ 31) : whereE s l n c.day = 0 ∧ whereR s l n c.day = roomK s l n (k + 1) := by
  obtain ⟨_, hl, _⟩ := play_0 h
  obtain ⟨h1, h2, _⟩ := days_take hl hc
  have he : whereE s l n c.day = 0 := by
    unfold whereE
    rw [if_pos h, btw_t.2 hb, btw_t.2 ⟨h1, h2⟩]; rfl
  refine ⟨he, ?_⟩
  rw [whereR, if_pos he, upto_at hl hc hn]; rfl
theorem play_at_le (s : Str) (l : List CarryV) (h : playE s l ≠ 0) : playAt s l ≤ l.length - 1 := by
  unfold playE at h
  unfold playAt
  by_cases hs : strB s = true
  · rw [if_pos hs] at h ⊢
    by_cases hl : logB s l = true
    · rw [if_pos hl] at h ⊢
      have := (run_le s l log0).2 h
      omega
    · rw [if_neg hl]; omega
  · rw [if_neg hs]; omega
/-! what lies in the rooms -/
def cntL (b : List BagV) : List Int := (List.range 6).map fun r : Nat => if r = 0 then 0 else (manyN b (r : Int) : Int)
theorem cnt_len (b : List BagV) : (cntL b).length = 6 := rfl
theorem cnt_nil : cntL [] = List.replicate 6 0 := rfl
theorem cnt_at (b : List BagV) {r : Int} (h : 1 ≤ r ∧ r ≤ 5) : (cntL b)[r.toNat]? = some (manyN b r : Int) := by
  unfold cntL
  rw [List.getElem?_map, List.getElem?_range (by omega)]
  dsimp only [Option.map]
  rw [if_neg (by omega), Int.toNat_of_nonneg (by omega)]
theorem cntL_step0 {b : List BagV} {k : Nat} {x : BagV} (h : b[k]? = some x) (hx : x.room = 0) : cntL (b.take (k + 1)) = cntL (b.take k) := by
  unfold cntL
  refine List.map_congr_left fun r _ => ?_
  by_cases hr : r = 0
  · rw [if_pos hr, if_pos hr]
  · rw [if_neg hr, if_neg hr, many_step _ h, if_neg (by rw [hx]; omega)]; rfl
theorem cntL_step {b : List BagV} {k : Nat} {x : BagV} (h : b[k]? = some x) (hx : 1 ≤ x.room ∧ x.room ≤ 5) : cntL (b.take (k + 1)) = (cntL (b.take k)).set x.room.toNat ((manyN (b.take k) x.room : Int) + 1) := by
  refine List.ext_getElem? fun i => ?_
  by_cases hi : i < 6
  · by_cases e : x.room.toNat = i
    · rw [List.getElem?_set, if_pos e, if_pos (by rw [cnt_len]; omega)]
      rw [← e, cnt_at _ hx, many_step _ h, if_pos rfl]; simp
    · rw [List.getElem?_set_ne e]
      unfold cntL
      rw [List.getElem?_map, List.getElem?_map, List.getElem?_range hi]
      dsimp only [Option.map]
      by_cases hr : i = 0
      · rw [if_pos hr, if_pos hr]
      · rw [if_neg hr, if_neg hr, many_step _ h, if_neg (by omega)]; rfl
  · rw [List.getElem?_eq_none (by rw [cnt_len]; omega), List.getElem?_eq_none (by rw [List.length_set, cnt_len]; omega)]
theorem many_mono (b : List BagV) (k : Nat) (r : Int) : manyN (b.take k) r ≤ manyN b r := by
  unfold manyN
  conv => rhs; rw [← List.take_append_drop k b, List.countP_append]
  omega
/-- A bag that lies in a room. -/
theorem store_law {s : Str} {l : List CarryV} (h : playE s l = 0) {k : Nat} {x : BagV} (hx : (playB s l)[k]? = some x) :
    0 ≤ x.room ∧ x.room < s.rooms.length ∧ x.room ≤ 5 ∧ (x.room ≠ 0 → (manyN ((playB s l).take (k + 1)) x.room : Int) ≤ (roomAt s x.room).hold ∧ s.rooms[x.room.toNat]? = some (roomAt s x.room) ∧ 0 ≤ (roomAt s x.room).climate ∧ (roomAt s x.room).climate ≤ 3 ∧ 0 ≤ x.suits ∧ x.suits ≤ 15 ∧ x.suits.toNat.testBit (roomAt s x.room).climate.toNat = true
      ∧ ∀ i y, i < k → (playB s l)[i]? = some y → y.room ≠ 0 → y.mark ≠ x.mark) := by
  have hI := play_inv h
  have hB := (play_run h).2.1
  obtain ⟨hs, _, _⟩ := play_0 h
  have hr1 := (rooms_le hs).1
  rw [hB] at hx ⊢
  have hn := hI.nums _ _ hx
  by_cases h0 : x.room = 0
  · exact ⟨hn.1, by omega, hn.2.1, fun h => absurd h0 h⟩
  · obtain ⟨hk, _⟩ := hI.bags _ _ hx h0
    have hrm := hk.room
    obtain ⟨r1, r2, r3, r4, r5⟩ := roomAt_ok hs (show 0 ≤ x.room by omega) hrm.2
    have hh := hI.holds x.room hrm.1 hrm.2
    have hm := many_mono (run s log0 l).1.bags (k + 1) x.room
    refine ⟨hn.1, hrm.2, hn.2.1, fun _ => ⟨by omega, r1, r4, r5, hk.suits.1, hk.suits.2.1, hk.suits.2.2, fun i y hi hy hyr => hI.seals i k y x hy hx hyr h0 (by omega)⟩⟩
end Vm
namespace Go.Proofs.Ytomidcehahdmbaa
open Go Go.Sx Go.RowKit Vm
theorem bf_cell {l : List BagV} {k : Nat} {b : BagV} (h : l[k]? = some b) {j : Nat} (hj : j < 5) : (l.flatMap encBa)[0 + k * 5 + j]? = (encBa b)[j]? := by
  rw [Nat.zero_add]
  exact flatMap_get encBa 5 enBa_len _ _ _ j h hj
theorem bit_rng {s : Str} {c : CarryV} (h : COk s c) (hs : strB s = true) : 0 ≤ c.by_ ∧ c.by_ ≤ 5 ∧ 0 ≤ c.with_ ∧ c.with_ ≤ 5 := by
  have h1 := (rooms_le hs).2.2.2.1
  have h2 := h.by_
  have h3 := h.with_
  omega
end Go.Proofs.Ytomidcehahdmbaa
namespace Go.Sx
open Go.RowKit
section
variable {C : Cx} {L : Regs} {O S : List Fact} {ty : TypeId} {pos : String} {aft : Array Edge} {dst : Option Tmp} {gu : Option (Nat × Bool)} {t t' : TypeId} {x y : Operand}
def orZ (a b : Int) : Int := IntKind.i64.wrap ((BitVec.ofInt 64 a ||| BitVec.ofInt 64 b).toNat : Int)
def andZ (a : Int) (c : Nat) : Nat := (BitVec.ofInt 64 a &&& BitVec.ofInt 64 (c : Int)).toNat
theorem bv_wrap (z : Int) : BitVec.ofInt 64 (IntKind.i64.wrap z) = BitVec.ofInt 64 z := by
  rw [IntKind.wrap_i64]
  apply BitVec.eq_of_toNat_eq
  rw [BitVec.toNat_ofInt, BitVec.toNat_ofInt]
  omega
theorem bv_nat (m : Nat) : BitVec.ofInt 64 (m : Int) = BitVec.ofNat 64 m := BitVec.ofInt_natCast ..
theorem and_bit {a : Int} {c i : Nat} (hc : c < 2 ^ 62) : (andZ a c).testBit i = ((BitVec.ofInt 64 a).getLsbD i && c.testBit i) := by
  unfold andZ
  rw [BitVec.testBit_toNat, BitVec.getLsbD_and]
  congr 1
  rw [← BitVec.testBit_toNat, nat_bv c (by omega)]
theorem and_le {a : Int} {c : Nat} (hc : c < 2 ^ 62) : andZ a c ≤ c := by
  have e : andZ a c &&& c = andZ a c := Nat.eq_of_testBit_eq fun i => by
    rw [Nat.testBit_and, and_bit hc]
    cases (BitVec.ofInt 64 a).getLsbD i <;> cases c.testBit i <;> rfl
  rw [← e]; exact Nat.and_le_right
theorem and_or {p c i : Nat} {n : Int} (hp : p < 2 ^ 62) (hc : c < 2 ^ 62) (h : p.testBit i = true) (h2 : c.testBit i = true) : (andZ (orZ p n) c).testBit i = true := by
  rw [and_bit hc, h2, Bool.and_true, orZ, bv_wrap, bv_nat, BitVec.ofNat_toNat, BitVec.setWidth_eq, BitVec.getLsbD_or, ← BitVec.testBit_toNat, nat_bv p (by omega), h, Bool.true_or]
theorem y_orZ {m n : Int} (hx : val L x = some (.int .i64 m)) (hy : val L y = some (.int .i64 n)) : Yi C ⟨dst, .binOp .or t x y t', ty, pos, aft, gu⟩ L O S (.int .i64 (orZ m n)) :=
  yi_val (by intro c h; cases h) fun a w hr _ => by
    have e : binOp .or t (.int .i64 m) (.int .i64 n) = pure (.int .i64 (orZ m n)) := by
      unfold binOp
      simp only [ne_eq, not_true_eq_false, if_false]
      rfl
    simp [execOp, hr.val hx, hr.val hy, eqGuard, e]
theorem y_andZ {m : Int} {c : Nat} (hx : val L x = some (.int .i64 m)) (hy : val L y = some (.int .i64 (c : Nat))) (hc : c < 2 ^ 62) : Yi C ⟨dst, .binOp .and t x y t', ty, pos, aft, gu⟩ L O S (.int .i64 ((andZ m c : Nat) : Int)) :=
  yi_val (by intro c h; cases h) fun a w hr _ => by
    have h1 : IntKind.i64.wrap ((andZ m c : Nat) : Int) = ((andZ m c : Nat) : Int) := IntWalk.i64_in _ (by have := and_le (a := m) hc; omega)
    have e : binOp .and t (.int .i64 m) (.int .i64 (c : Int)) = pure (.int .i64 ((andZ m c : Nat) : Int)) := by
      unfold binOp
      simp only [ne_eq, not_true_eq_false, if_false]
      exact congrArg (fun z => (pure (Value.int .i64 z) : Sem Value)) h1
    simp [execOp, hr.val hx, hr.val hy, eqGuard, e]
/-- An element of a slice whose length is known in other words. -/
theorem y_ixRm {α : Type} {m s e n c sz : Nat} {A : Option Addr} {i : Int} {k : IntKind} {enc : α → List Value} {xs : List α} (hm : m = xs.length) (hr0 : Reads C O S sz enc A xs) (hu : C.P.underlying s = some (.slice e)) (hs : ∀ w, (sizeOf e).run C.P w = .ok n w) (hx : val L x = some (.slice A m c)) (hy : val L y = some (.int k i)) (hi : 0 ≤ i ∧ i < m) :
    Yi C ⟨dst, .indexAddr s x y, ty, pos, aft, gu⟩ L O S (.pointer (some (at_ A (i.toNat * n)))) := by
  subst hm
  exact y_ixR hr0 hu hs hx hy hi
theorem oj_cutO {α : Type} {Q : Exit → Act → World → Prop} {ops : Array Oper} {rest : List Oper} {e : TypeId} {sz c : Nat} {enc : α → List Value} {A : Option Addr} {xs ys : List α} {O' : List Fact} (he : ∀ x, (enc x).length = sz) (hA : A = none → xs = [] ∧ c = 0) [hu : UpdOw O A e sz enc c (xs ++ ys) (ow e sz enc A c xs) O'] (k : OJ C ops Q rest L O' S) : OJ C ops Q rest L O S :=
  fun a w hr hp => k a w hr (hp.write hu.rep rfl rfl rfl (Nat.le_refl _) (fun _ _ _ => rfl) (ow_cut he hA (hp.own _ hu.rep.mem).1) (fun b hb => by
    have hb' : (ow e sz enc A c (xs ++ ys)).fp b := by
      have h1 : (Value.slice A xs.length c).ownBlock = some b := hb
      show (Value.slice A (xs ++ ys).length c).ownBlock = some b
      cases A with
      | none => simp [Value.ownBlock] at h1
      | some a => exact h1
    exact ⟨((hp.own _ hu.rep.mem).2 b hb').1, .inl hb'⟩))
end
end Go.Sx
namespace Go.Proofs.Ytomidcehahdmbaa
open Go.Sx Go.RowKit
set_option maxRecDepth 20000

end Go.Proofs.Ytomidcehahdmbaa
namespace Go.Proofs.Ytomidcehahdmbaa
open Go.Sx Go.RowKit
set_option maxRecDepth 20000

end Go.Proofs.Ytomidcehahdmbaa
namespace Go.Proofs.Ytomidcehahdmbaa
open Go.Sx Go.RowKit Vm
set_option maxRecDepth 20000
theorem k_BitZ (a r : Int) (w : World) (ha : 0 ≤ a) (h0 : 0 ≤ r) (h1 : r ≤ 64) : Calls Try.prog 29 #[.int .i64 a, .int .i64 r] w (fun e w' => e = .returned (.bool (a.toNat.testBit r.toNat)) ∧ Grow w w') := by
  obtain ⟨m, rfl⟩ : ∃ m : Nat, a = m := ⟨a.toNat, by omega⟩
  exact k_BitI m r w ⟨h0, h1⟩

set_option maxHeartbeats 3200000 in
theorem k_stored (s : StrV) (l : List CarryV) (Am : Option Addr) (cm : Nat) (w : World) (hs : StrRd w s) (h0 : playE s.s l = 0) (hm : Rd w 1 enInt Am (roomsV s.s l l.length)) : Calls Try.prog 32 #[.agg #[.slice s.Ar s.rooms.length s.cr, .slice s.Ag s.gates.length s.cg, .slice s.As s.staff.length s.cs], .agg ((playB s.s l).flatMap encBa).toArray, .slice Am 32 cm] w (fun e w' => e = .returned (.bool true) ∧ Grow w w') := by
  obtain ⟨hb, hlb, hl64⟩ := play_0 h0
  have hpl := playB_len (s := s.s) l
  have hok := StrOk.of hb
  have hnr := hok.nr
  have hng := hok.ng
  have hns := hok.ns
  refine enter_pure (args := [.agg #[.slice s.Ar s.rooms.length s.cr, .slice s.Ag s.gates.length s.cg, .slice s.As s.staff.length s.cs], .agg ((playB s.s l).flatMap encBa).toArray, .slice Am 32 cm]) [sl (fun b => b < w.heap.size) 3 encRo s.Ar s.rooms, sl (fun b => b < w.heap.size) 4 encGa s.Ag s.gates, sl (fun b => b < w.heap.size) 1 enInt s.As s.staff, sl (fun b => b < w.heap.size) 1 enInt Am (roomsV s.s l l.length)] Try.func32 rfl (by rw [Try.ntmps32]; simp) (fun g hg => by simp at hg; rcases hg with rfl | rfl | rfl | rfl; exact ⟨hs.rooms, fun _ h => h⟩; exact ⟨hs.gates, fun _ h => h⟩; exact ⟨hs.staff, fun _ h => h⟩; exact ⟨hm, fun _ h => h⟩) ?_
  refine cj_seq (cj_region ?_)
  refine oj_box rfl rfl rfl (fun b3 => ?_)
  refine oj_box rfl rfl rfl (fun b4 => ?_)
  refine oj_step (y_assign rfl) rfl rfl rfl ?_
  refine oj_nil ?_
  refine ej_th (cj_seq (cj_region ?_))
  refine oj_makeSlice1 (n := 6) Try.underlying24 Try.type3 rfl rfl rfl rfl rfl (by decide) (by decide) rfl (fun b11 => ?_)
  refine oj_litOw (b := b11) (e := 3) (c := 6) (sz := 1) (enc := enInt) (List.replicate 6 (0 : Int)) rfl rfl rfl (by unfold maxLen; decide) ?_
  refine oj_step (y_assign rfl) rfl rfl rfl ?_
  refine oj_nil ?_
  refine ej_th (cj_seq (cj_seq ?_))
  refine cj_regionG (gj_step (y_assign rfl) rfl rfl rfl (gj_nil ?_))
  refine ej_th (cj_block ?_)
  refine cj_eqO [ow 3 1 enInt (some ⟨b11, 0, none⟩) 6 (cntL ((playB s.s l).take 0)), ownB b4 (cellsB 48 ((playB s.s l).flatMap encBa)), ownB b3 (cellsB 26 [.slice s.Ar s.rooms.length s.cr, .slice s.Ag s.gates.length s.cg, .slice s.As s.staff.length s.cs])] rfl ?_
  refine cj_lpi (X := Nat) [(2, _), (3, _), (4, _), (7, _)] (fun k => k ≤ 32) (fun k => [(8, .int .i64 (k : Nat))]) (fun k => [ow 3 1 enInt (some ⟨b11, 0, none⟩) 6 (cntL ((playB s.s l).take k)), ownB b4 (cellsB 48 ((playB s.s l).flatMap encBa)), ownB b3 (cellsB 26 [.slice s.Ar s.rooms.length s.cr, .slice s.Ag s.gates.length s.cg, .slice s.As s.staff.length s.cs])]) (fun k => [sl (fun b => b < w.heap.size) 3 encRo s.Ar s.rooms, sl (fun b => b < w.heap.size) 4 encGa s.Ag s.gates, sl (fun b => b < w.heap.size) 1 enInt s.As s.staff, sl (fun b => b < w.heap.size) 1 enInt Am (roomsV s.s l l.length)]) (fun k => 32 - k) 0 (by omega) ⟨rfl, rfl, rfl, rfl, rfl, trivial⟩ ?_
  rintro k hk
  dsimp only [List.cons_append, List.nil_append]
  refine cj_seq (cj_seq ?_)
  refine cj_regionG (gj_step (y_move rfl) rfl rfl rfl (gj_step (y_lss rfl rfl) rfl rfl rfl (gj_nil ?_)))
  refine ej_th ?_
  refine cj_cond rfl (fun h13 => ?_) (fun h13 => ?_)
  · have h13b := h13
    try simp only [sxb] at h13
    obtain ⟨x, hx⟩ : ∃ x, (playB s.s l)[k]? = some x := ⟨_, List.getElem?_eq_getElem (by omega)⟩
    have htk : Tk 5 (0 + ((k : Nat) : Int).toNat * 5) ((playB s.s l).flatMap encBa) (encBa x) := by rw [Int.toNat_natCast, Nat.zero_add]; exact tk_bag hx
    obtain ⟨hs0, hs1, hs5, hs9⟩ := store_law h0 hx
    have hs1 : x.room < s.rooms.length := hs1
    have hrk : (roomsV s.s l l.length)[((k : Nat) : Int).toNat]? = some x.room := by
      unfold roomsV
      rw [List.take_length, Int.toNat_natCast, List.getElem?_map, hx]; rfl
    have hbt : btw 0 x.room ((s.rooms.length : Int) - 1) = true := btw_t.2 (by omega)
    refine cj_skip (ej_th (cj_seq (cj_block (cj_seq (cj_region ?_)))))
    refine oj_step (y_move rfl) rfl rfl rfl ?_
    refine oj_step (y_ixArr Try.underlying48 Try.sizeOf47 rfl rfl (by omega)) rfl rfl rfl ?_
    refine oj_step (y_loadN (hv := htk) Try.isAgg47 Try.sizeOf47 rfl) rfl rfl rfl ?_
    refine oj_alloc Try.zeroValue47 rfl rfl (fun b9 => ?_)
    refine oj_store rfl rfl rfl rfl Try.sizeOf47 rfl ?_
    refine oj_nil ?_
    refine ej_th (cj_seq (cj_seq ?_))
    refine cj_draw (by kernel_rfl) (by kernel_rfl) ?_
    refine gj_step (y_fa0 fa47_0 rfl) rfl rfl rfl (gj_step (y_load1 Try.isAgg3 rfl rfl) rfl rfl rfl (gj_step (y_move rfl) rfl rfl rfl (gj_step (y_move rfl) rfl rfl rfl (gj_step (y_ixRm (m := 32) (xs := (roomsV s.s l l.length)) (by rw [rooms_len]) (reads_sl) Try.underlying24 Try.sizeOf3 rfl rfl (⟨by omega, by omega⟩)) rfl rfl rfl (gj_step (y_ld0 (reads_sl) Try.isAgg3 rfl (hrk) rfl) rfl rfl rfl (gj_step (y_neq rfl rfl) rfl rfl rfl (gj_step (y_move rfl) rfl rfl rfl (?_))))))))
    refine gj_g 8 26 34 rfl rfl rfl rfl (fun hg26 => gj_yes rfl rfl rfl (y_fa0 fa47_0 rfl) rfl rfl (gj_yes rfl rfl rfl (y_load1 Try.isAgg3 rfl rfl) rfl rfl (gj_yes rfl rfl rfl (y_fa0 fa26_0 rfl) rfl rfl (gj_yes rfl rfl rfl (y_load1 Try.isAgg22 rfl rfl) rfl rfl (gj_yes rfl rfl rfl (y_lenA Try.underlying22 rfl) rfl rfl (gj_yes rfl rfl rfl (y_sub rfl rfl (by omega)) rfl rfl (gj_yes rfl rfl rfl (y_call Try.call27 rfl (fun w hp => k_From _ _ _ w)) rfl rfl (gj_yes rfl rfl rfl (y_not rfl) rfl rfl (gj_nil rfl))))))))) ?_
    refine gj_step (y_or rfl rfl rfl) rfl rfl rfl (?_)
    refine gj_nil ?_
    refine ej_th ?_
    refine cj_cond rfl (fun h35 => ?_) (fun h35 => ?_)
    · simp [hbt] at h35
    · have h35b := h35
      try simp only [sxb] at h35
      refine cj_skip (ej_th (cj_seq (cj_seq ?_)))
      refine cj_regionG (gj_step (y_fa0 fa47_0 rfl) rfl rfl rfl (gj_step (y_load1 Try.isAgg3 rfl rfl) rfl rfl rfl (gj_step (y_eql rfl rfl) rfl rfl rfl (gj_nil ?_))))
      refine ej_th ?_
      refine cj_cond rfl (fun h38 => ?_) (fun h38 => ?_)
      · have h38b := h38
        try simp only [sxb] at h38
        have hct := cntL_step0 hx h38
        refine cj_exit (ej_then_exit (ej_blk_hit (ej_th ?_)))
        refine cj_regionG (gj_step (y_move rfl) rfl rfl rfl (gj_step (y_add rfl rfl (by omega)) rfl rfl rfl (gj_step (y_assign rfl) rfl rfl rfl (gj_nil ?_))))
        rw [← hct]
        exact ej_nx (k + 1) (by omega) (by omega) ⟨rfl, rfl, rfl, rfl, rfl, trivial⟩
      · have h38b := h38
        try simp only [sxb] at h38
        obtain ⟨hh1, hrm, hh2, hh3, hh4, hh5, hh6, hh7⟩ := hs9 h38
        have hb15 : 1 ≤ x.room ∧ x.room ≤ 5 := by omega
        have hct := cntL_step hx hb15
        have hcl := cnt_len ((playB s.s l).take k)
        have hmn : manyN ((playB s.s l).take k) x.room ≤ 32 := by unfold manyN; exact Nat.le_trans List.countP_le_length (by rw [List.length_take]; omega)
        have hrm : s.rooms[x.room.toNat]? = some (roomAt s.s x.room) := hrm
        refine cj_skip (ej_th (cj_seq (cj_region ?_)))
        refine oj_step (y_move rfl) rfl rfl rfl ?_
        refine oj_step (y_fa0 fa47_0 rfl) rfl rfl rfl ?_
        refine oj_step (y_load1 Try.isAgg3 rfl rfl) rfl rfl rfl ?_
        refine oj_step (y_ixRm (m := 6) (xs := cntL ((playB s.s l).take k)) (rfl) (reads_owI) Try.underlying24 Try.sizeOf3 rfl rfl (⟨by omega, by omega⟩)) rfl rfl rfl ?_
        refine oj_step (y_ld0 (reads_owI) Try.isAgg3 rfl (cnt_at ((playB s.s l).take k) hb15) rfl) rfl rfl rfl ?_
        refine oj_step (y_add rfl rfl (by omega)) rfl rfl rfl ?_
        refine oj_step (y_ixRm (m := 6) (xs := cntL ((playB s.s l).take k)) (rfl) (reads_owI) Try.underlying24 Try.sizeOf3 rfl rfl (⟨by omega, by omega⟩)) rfl rfl rfl ?_
        refine oj_storeE (i := x.room.toNat) (u := ((manyN ((playB s.s l).take k) x.room : Int) + 1)) rfl rfl rfl rfl Try.sizeOf3 (fun _ => rfl) (by first | omega | (simp only [List.length_set]; omega) | (simp; omega)) ?_
        refine oj_nil ?_
        refine ej_th (cj_seq (cj_seq ?_))
        rw [← hct]
        refine cj_draw (by kernel_rfl) (by kernel_rfl) ?_
        refine gj_step (y_move rfl) rfl rfl rfl (gj_step (y_fa0 fa47_0 rfl) rfl rfl rfl (gj_step (y_load1 Try.isAgg3 rfl rfl) rfl rfl rfl (gj_step (y_ixRm (m := 6) (xs := cntL ((playB s.s l).take (k + 1))) (rfl) (reads_owI) Try.underlying24 Try.sizeOf3 rfl rfl (⟨by omega, by omega⟩)) rfl rfl rfl (gj_step (y_ld0 (reads_owI) Try.isAgg3 rfl (cnt_at ((playB s.s l).take (k + 1)) hb15) rfl) rfl rfl rfl (gj_step (y_fa0 fa26_0 rfl) rfl rfl rfl (gj_step (y_load1 Try.isAgg22 rfl rfl) rfl rfl rfl (gj_step (y_fa0 fa47_0 rfl) rfl rfl rfl (gj_step (y_load1 Try.isAgg3 rfl rfl) rfl rfl rfl (gj_step (y_ixR (reads_sl) Try.underlying22 Try.sizeOf71 rfl rfl (⟨by omega, by omega⟩)) rfl rfl rfl (gj_step (y_faE fa71_0 rfl) rfl rfl rfl (gj_step (y_ld1 (reads_sl) Try.isAgg3 rfl (hrm) rfl) rfl rfl rfl (gj_step (y_gtr rfl rfl) rfl rfl rfl (gj_step (y_move rfl) rfl rfl rfl (?_))))))))))))))
        refine gj_g 9 59 68 rfl rfl rfl rfl (fun hg59 => gj_yes rfl rfl rfl (y_fa0 fa26_0 rfl) rfl rfl (gj_yes rfl rfl rfl (y_load1 Try.isAgg22 rfl rfl) rfl rfl (gj_yes rfl rfl rfl (y_fa0 fa47_0 rfl) rfl rfl (gj_yes rfl rfl rfl (y_load1 Try.isAgg3 rfl rfl) rfl rfl (gj_yes rfl rfl rfl (y_ixR (reads_sl) Try.underlying22 Try.sizeOf71 rfl rfl (⟨by omega, by omega⟩)) rfl rfl (gj_yes rfl rfl rfl (y_faE fa71_1 rfl) rfl rfl (gj_yes rfl rfl rfl (y_ld1 (reads_sl) Try.isAgg3 rfl (hrm) rfl) rfl rfl (gj_yes rfl rfl rfl (y_call Try.call27 rfl (fun w hp => k_From _ _ _ w)) rfl rfl (gj_yes rfl rfl rfl (y_not rfl) rfl rfl (gj_nil rfl)))))))))) ?_
        refine gj_step (y_or rfl rfl rfl) rfl rfl rfl (gj_step (y_move rfl) rfl rfl rfl (?_))
        refine gj_g 11 70 81 rfl rfl rfl rfl (fun hg70 => gj_yes rfl rfl rfl (y_fa fa47_2 rfl) rfl rfl (gj_yes rfl rfl rfl (y_load1 Try.isAgg3 rfl rfl) rfl rfl (gj_yes rfl rfl rfl (y_fa0 fa26_0 rfl) rfl rfl (gj_yes rfl rfl rfl (y_load1 Try.isAgg22 rfl rfl) rfl rfl (gj_yes rfl rfl rfl (y_fa0 fa47_0 rfl) rfl rfl (gj_yes rfl rfl rfl (y_load1 Try.isAgg3 rfl rfl) rfl rfl (gj_yes rfl rfl rfl (y_ixR (reads_sl) Try.underlying22 Try.sizeOf71 rfl rfl (⟨by omega, by omega⟩)) rfl rfl (gj_yes rfl rfl rfl (y_faE fa71_1 rfl) rfl rfl (gj_yes rfl rfl rfl (y_ld1 (reads_sl) Try.isAgg3 rfl (hrm) rfl) rfl rfl (gj_yes rfl rfl rfl (y_call Try.call29 rfl (fun w hp => k_BitZ x.suits (roomAt s.s x.room).climate w (by omega) (by omega) (by omega))) rfl rfl (gj_yes rfl rfl rfl (y_not rfl) rfl rfl (gj_nil rfl)))))))))))) ?_
        refine gj_step (y_or rfl rfl rfl) rfl rfl rfl (?_)
        refine gj_nil ?_
        refine ej_th ?_
        refine cj_cond rfl (fun h82 => ?_) (fun h82 => ?_)
        · have e1 : ¬ (roomAt s.s x.room).hold < (manyN ((playB s.s l).take (k + 1)) x.room : Int) := by omega
          have e2 : btw 0 (roomAt s.s x.room).climate 3 = true := btw_t.2 (by omega)
          simp [e1, e2, hh6] at h82
        · have h82b := h82
          try simp only [sxb] at h82
          refine cj_skip (ej_th (cj_seq ?_))
          refine cj_regionG (gj_step (y_assign rfl) rfl rfl rfl (gj_nil ?_))
          refine ej_th (cj_block ?_)
          refine cj_takes [ownB b9 (cellsB 47 (encBa x)), ow 3 1 enInt (some ⟨b11, 0, none⟩) 6 (cntL ((playB s.s l).take (k + 1))), ownB b4 (cellsB 48 ((playB s.s l).flatMap encBa)), ownB b3 (cellsB 26 [.slice s.Ar s.rooms.length s.cr, .slice s.Ag s.gates.length s.cg, .slice s.As s.staff.length s.cs])] ?_
          refine cj_lpi (X := Nat) [(8, _), (2, _), (3, _), (4, _), (7, _), (9, _)] (fun i => i ≤ k) (fun i => [(10, .int .i64 (i : Nat))]) (fun i => [ownB b9 (cellsB 47 (encBa x)), ow 3 1 enInt (some ⟨b11, 0, none⟩) 6 (cntL ((playB s.s l).take (k + 1))), ownB b4 (cellsB 48 ((playB s.s l).flatMap encBa)), ownB b3 (cellsB 26 [.slice s.Ar s.rooms.length s.cr, .slice s.Ag s.gates.length s.cg, .slice s.As s.staff.length s.cs])]) (fun i => [sl (fun b => b < w.heap.size) 3 encRo s.Ar s.rooms, sl (fun b => b < w.heap.size) 4 encGa s.Ag s.gates, sl (fun b => b < w.heap.size) 1 enInt s.As s.staff, sl (fun b => b < w.heap.size) 1 enInt Am (roomsV s.s l l.length)]) (fun i => k - i) 0 (by omega) ⟨rfl, rfl, rfl, rfl, rfl, rfl, rfl, trivial⟩ ?_
          rintro i hi
          dsimp only [List.cons_append, List.nil_append]
          refine cj_seq (cj_seq ?_)
          refine cj_regionG (gj_step (y_move rfl) rfl rfl rfl (gj_step (y_move rfl) rfl rfl rfl (gj_step (y_lss rfl rfl) rfl rfl rfl (gj_nil ?_))))
          refine ej_th ?_
          refine cj_cond rfl (fun h85 => ?_) (fun h85 => ?_)
          · have h85b := h85
            try simp only [sxb] at h85
            obtain ⟨y, hy⟩ : ∃ y, (playB s.s l)[i]? = some y := ⟨_, List.getElem?_eq_getElem (by omega)⟩
            refine cj_skip (ej_th (cj_seq (cj_block (cj_seq ?_))))
            refine cj_draw (by kernel_rfl) (by kernel_rfl) (gj_step (y_move rfl) rfl rfl rfl (gj_step (y_ixArr Try.underlying48 Try.sizeOf47 rfl rfl (by omega)) rfl rfl rfl (gj_step (y_fa0 fa47_0 rfl) rfl rfl rfl (gj_step (y_load1 Try.isAgg3 rfl (show (((playB s.s l).flatMap encBa))[0 + i * 5]? = _ from bf_cell hy (j := 0) (by omega))) rfl rfl rfl (gj_step (y_neq rfl rfl) rfl rfl rfl (gj_step (y_move rfl) rfl rfl rfl (gj_g 7 93 100 rfl rfl rfl rfl (fun hg93 => gj_yes rfl rfl rfl (y_move rfl) rfl rfl (gj_yes rfl rfl rfl (y_ixArr Try.underlying48 Try.sizeOf47 rfl rfl (by omega)) rfl rfl (gj_yes rfl rfl rfl (y_fa fa47_1 rfl) rfl rfl (gj_yes rfl rfl rfl (y_load1 Try.isAgg3 rfl (show (((playB s.s l).flatMap encBa))[0 + i * 5 + 1]? = _ from bf_cell hy (j := 1) (by omega))) rfl rfl (gj_yes rfl rfl rfl (y_fa fa47_1 rfl) rfl rfl (gj_yes rfl rfl rfl (y_load1 Try.isAgg3 rfl rfl) rfl rfl (gj_yes rfl rfl rfl (y_eql rfl rfl) rfl rfl (gj_nil rfl)))))))) (gj_step (y_and rfl rfl rfl) rfl rfl rfl (gj_nil ?_)))))))))
            refine ej_th ?_
            refine cj_cond rfl (fun h101 => ?_) (fun h101 => ?_)
            · have e9 := hh7 i y (by omega) hy
              simp at h101
              exact absurd h101.2 (e9 h101.1)
            · have h101b := h101
              try simp only [sxb] at h101
              refine cj_skip (ej_blk (ej_th ?_))
              refine cj_regionG (gj_step (y_move rfl) rfl rfl rfl (gj_step (y_add rfl rfl (by omega)) rfl rfl rfl (gj_step (y_assign rfl) rfl rfl rfl (gj_nil ?_))))
              exact ej_nx (i + 1) (by omega) (by omega) ⟨rfl, rfl, rfl, rfl, rfl, rfl, rfl, trivial⟩
          · have h85b := h85
            try simp only [sxb] at h85
            refine cj_exit (ej_then_exit (ej_then_exit (ej_blk_hit (ej_blk (ej_th ?_)))))
            refine cj_regionG (gj_step (y_move rfl) rfl rfl rfl (gj_step (y_add rfl rfl (by omega)) rfl rfl rfl (gj_step (y_assign rfl) rfl rfl rfl (gj_nil ?_))))
            exact ej_nx (k + 1) (by omega) (by omega) ⟨rfl, rfl, rfl, rfl, rfl, trivial⟩
  · have h13b := h13
    try simp only [sxb] at h13
    refine cj_exit (ej_then_exit (ej_then_exit (ej_blk_hit (ej_th (cj_seq ?_)))))
    refine cj_regionG (gj_step (y_assign rfl) rfl rfl rfl (gj_nil ?_))
    refine ej_th (cj_ret ?_)
    exact ej_ret1 rfl Try.results32 rfl (fun w' hp => ⟨by simp, hp.below⟩)

end Go.Proofs.Ytomidcehahdmbaa
namespace Go.Proofs.Ytomidcehahdmbaa
open Go.Sx Go.RowKit
set_option maxRecDepth 20000
theorem el45 : ElemIs Try.prog 45 52 8 64 := ⟨⟨_, (.agg #[.int .i64 0, .int .i64 0, .int .i64 0, .int .i64 0, .int .i64 0, .int .i64 0, .int .i64 0, .int .i64 0]), Try.underlying45, Try.type52, by kernel_rfl, by kernel_rfl, by kernel_rfl, by kernel_rfl, by decide⟩⟩
end Go.Proofs.Ytomidcehahdmbaa
namespace Go.Proofs.Ytomidcehahdmbaa
open Go.Sx Go.RowKit Vm
set_option maxRecDepth 20000
set_option maxHeartbeats 6400000 in
theorem k_VaultSwap (s : StrV) (l : List CarryV) (A : Option Addr) (cc : Nat) (n0 n1 n2 n3 : Int) (w : World) (hs : StrRd w s) (hl : Rd w 8 encCa A l) (hcap : l.length ≤ cc) : Calls Try.prog 8 #[.agg #[.slice s.Ar s.rooms.length s.cr, .slice s.Ag s.gates.length s.cg, .slice s.As s.staff.length s.cs], .slice A l.length cc, .agg #[.int .i64 n0, .int .i64 n1, .int .i64 n2, .int .i64 n3]] w (fun e w' => e = .returned (.bool true) ∧ Grow w w') := by
  have hll := hl.len
  have hpl := playB_len (s := s.s) l
  have hrb := ringI_bd n0 32 (by omega)
  refine enter_pure (args := [.agg #[.slice s.Ar s.rooms.length s.cr, .slice s.Ag s.gates.length s.cg, .slice s.As s.staff.length s.cs], .slice A l.length cc, .agg #[.int .i64 n0, .int .i64 n1, .int .i64 n2, .int .i64 n3]]) [sl (fun b => b < w.heap.size) 3 encRo s.Ar s.rooms, sl (fun b => b < w.heap.size) 4 encGa s.Ag s.gates, sl (fun b => b < w.heap.size) 1 enInt s.As s.staff, sl (fun b => b < w.heap.size) 8 encCa A l] Try.func8 rfl (by rw [Try.ntmps8]; simp) (fun g hg => by simp at hg; rcases hg with rfl | rfl | rfl | rfl; exact ⟨hs.rooms, fun _ h => h⟩; exact ⟨hs.gates, fun _ h => h⟩; exact ⟨hs.staff, fun _ h => h⟩; exact ⟨hl, fun _ h => h⟩) ?_
  refine cj_seq (cj_region ?_)
  refine oj_box rfl rfl rfl (fun b3 => ?_)
  refine oj_box rfl rfl rfl (fun b5 => ?_)
  refine oj_step (y_assign rfl) rfl rfl rfl ?_
  refine oj_nil ?_
  refine ej_th (cj_seq ?_)
  refine cj_regionG ?_
  refine gj_step (y_ixArrC 0 Try.underlying56 Try.sizeOf3 rfl rfl (by decide) (by decide)) rfl rfl rfl (gj_step (y_load1 Try.isAgg3 rfl rfl) rfl rfl rfl (?_))
  refine gj_step (y_call Try.call33 rfl (fun w hp => k_Ring n0 32 w (by omega))) rfl rfl rfl ?_
  refine gj_step (y_assign rfl) rfl rfl rfl (?_)
  refine gj_nil ?_
  refine ej_th (cj_seq ?_)
  obtain ⟨bag, hbag⟩ : ∃ b : Int, ringI n0 32 = b := ⟨_, rfl⟩
  rw [hbag] at hrb ⊢
  have hbg : 0 ≤ bag ∧ bag ≤ 31 := by omega
  refine cj_region ?_
  refine oj_step (y_loadN Try.isAgg26 Try.sizeOf26 rfl) rfl rfl rfl ?_
  refine oj_step (y_move rfl) rfl rfl rfl ?_
  refine oj_step (y_move rfl) rfl rfl rfl ?_
  refine oj_callS (fun A c => .tuple #[.slice A (intsL (suspV s.s l bag)).length c, .int .i64 (suspE s.s l bag)]) 1 enInt (intsL (suspV s.s l bag)) Try.call34 rfl (fun w hp => k_Suspects s l A cc bag w (hs.mono hp.below) hp.rd hcap) rfl (fun A32 c32 fp32 hfp32 => ?_)
  refine oj_step (y_move rfl) rfl rfl rfl ?_
  refine oj_step (y_extract rfl rfl) rfl rfl rfl ?_
  refine oj_step (y_extract rfl rfl) rfl rfl rfl ?_
  refine oj_step (y_assign rfl) rfl rfl rfl ?_
  refine oj_step (y_assign rfl) rfl rfl rfl ?_
  refine oj_nil ?_
  refine ej_th (cj_seq (cj_seq ?_))
  refine cj_regionG (gj_step (y_move rfl) rfl rfl rfl (gj_step (y_neq rfl rfl) rfl rfl rfl (gj_nil ?_)))
  refine ej_th ?_
  refine cj_cond rfl (fun h36 => ?_) (fun h36 => ?_)
  · have h36b := h36
    try simp only [sxb] at h36
    have hV : suspV s.s l bag = [] := by rw [suspV, if_neg h36]
    refine cj_seq ?_
    refine cj_regionG ?_
    refine gj_step (y_move rfl) rfl rfl rfl (gj_step (y_lenA Try.underlying24 rfl) rfl rfl rfl (gj_step (y_eql rfl rfl) rfl rfl rfl (gj_step (y_move rfl) rfl rfl rfl (?_))))
    refine gj_g 1 40 41 rfl rfl rfl rfl (fun hg40 => gj_yes rfl rfl rfl (y_call Try.call19 rfl (fun w hp => k_works w)) rfl rfl (gj_nil rfl)) ?_
    refine gj_step (y_and rfl rfl rfl) rfl rfl rfl (gj_step (y_assign rfl) rfl rfl rfl (?_))
    refine gj_nil ?_
    refine ej_th (cj_ret (ej_then_ret ?_))
    exact ej_ret1 rfl Try.results8 rfl (fun w' hp => ⟨by simp [hV], hp.below⟩)
  · have h36b := h36
    try simp only [sxb] at h36
    have h1 : suspE s.s l bag = 0 := by simpa using h36
    have hV : suspV s.s l bag = minL ((sinceL s.s l bag l.length).flatMap fun r => groupsV s.s r.toNat) := by rw [suspV, if_pos h1]
    obtain ⟨h0, _, hroom⟩ := susp_0 h1
    obtain ⟨hb, hlb, hl64⟩ := play_0 h0
    have hok := StrOk.of hb
    have hnr := hok.nr
    have hng := hok.ng
    have hns := hok.ns
    have hsne := susp_some h1
    have hel := enC (suspV s.s l bag)
    have hsul : (suspV s.s l bag).length ≤ 64 := by rw [hV]; exact minL_len _
    have hslt : ∀ x ∈ suspV s.s l bag, x < 64 := fun x hx => by rw [hV] at hx; exact minL_lt hx
    have hsnl : (suspV s.s l bag).length ≠ 0 := fun h => hsne (List.length_eq_zero_iff.1 h)
    have hlne : l.length ≠ 0 := fun h => by
      rw [h] at hroom
      exact hroom (roomK_0 s.s l bag hbg)
    have hst := staff_le hb
    have hst2 : 2 ^ s.staff.length ≤ 64 := hst
    have hsp := Nat.two_pow_pos s.staff.length
    refine cj_skip (ej_th (cj_seq (cj_seq ?_)))
    refine cj_regionG ?_
    refine gj_step (y_move rfl) rfl rfl rfl (?_)
    refine gj_step (y_call Try.call28 rfl (fun w hp => k_least2 (suspV s.s l bag) A32 c32 w hp.rd (by rw [hV]; exact apart_min (susp_lt _)) (fun x hx => by rw [hV] at hx; exact minL_lt hx))) rfl rfl rfl ?_
    refine gj_step (y_not rfl) rfl rfl rfl (gj_step (y_move rfl) rfl rfl rfl (?_))
    refine gj_g 3 46 49 rfl rfl rfl rfl (fun hg46 => gj_yes rfl rfl rfl (y_move rfl) rfl rfl (gj_yes rfl rfl rfl (y_lenA Try.underlying24 rfl) rfl rfl (gj_yes rfl rfl rfl (y_eql rfl rfl) rfl rfl (gj_nil rfl)))) ?_
    refine gj_step (y_or rfl rfl rfl) rfl rfl rfl (?_)
    refine gj_nil ?_
    refine ej_th ?_
    refine cj_cond rfl (fun h50 => ?_) (fun h50 => ?_)
    · simp [hsnl] at h50
    · have h50b := h50
      try simp only [sxb] at h50
      refine cj_skip (ej_th (cj_seq ?_))
      refine cj_regionG (gj_step (y_assign rfl) rfl rfl rfl (gj_nil ?_))
      refine ej_th ?_
      refine cj_cuti (X := Option Addr × Nat × List Int) [(1, _), (3, _), (5, _), (6, _), (7, _), (8, _), (9, _)] ⟨rfl, rfl, rfl, rfl, rfl, rfl, rfl, trivial⟩ (fun ⟨A3, c3, rs3⟩ => sinceL s.s l bag l.length = rs3.reverse ∧ rs3 ≠ [] ∧ rs3.length ≤ l.length) (fun ⟨A3, c3, rs3⟩ => [(10, .slice A3 rs3.length c3)]) (fun ⟨A3, c3, rs3⟩ => [ow 3 1 enInt A3 c3 rs3, ownB b5 (cellsB 56 [.int .i64 n0, .int .i64 n1, .int .i64 n2, .int .i64 n3]), ownB b3 (cellsB 26 [.slice s.Ar s.rooms.length s.cr, .slice s.Ag s.gates.length s.cg, .slice s.As s.staff.length s.cs])]) (fun ⟨A3, c3, rs3⟩ => [sl fp32 1 enInt A32 (intsL (suspV s.s l bag)), sl (fun b => b < w.heap.size) 3 encRo s.Ar s.rooms, sl (fun b => b < w.heap.size) 4 encGa s.Ag s.gates, sl (fun b => b < w.heap.size) 1 enInt s.As s.staff, sl (fun b => b < w.heap.size) 8 encCa A l]) ?_ ?_
      · refine cj_seq ?_
        refine cj_regionG (gj_step (y_move rfl) rfl rfl rfl (gj_step (y_lenA Try.underlying45 rfl) rfl rfl rfl (gj_step (y_sub rfl rfl (by omega)) rfl rfl rfl (gj_step (y_assign rfl) rfl rfl rfl (gj_nil ?_)))))
        refine ej_th (cj_block ?_)
        refine cj_ownNil 3 1 enInt ?_
        refine cj_lpi (X := Nat × Option Addr × Nat × List Int) [(1, _), (3, _), (5, _), (6, _), (7, _), (8, _), (9, _)] (fun ⟨k, A1, c1, rs⟩ => Sw s.s l bag k rs ∧ rs.length ≤ l.length - k) (fun ⟨k, A1, c1, rs⟩ => [(10, .slice A1 rs.length c1), (11, .int .i64 ((k : Int) - 1))]) (fun ⟨k, A1, c1, rs⟩ => [ow 3 1 enInt A1 c1 rs, ownB b5 (cellsB 56 [.int .i64 n0, .int .i64 n1, .int .i64 n2, .int .i64 n3]), ownB b3 (cellsB 26 [.slice s.Ar s.rooms.length s.cr, .slice s.Ag s.gates.length s.cg, .slice s.As s.staff.length s.cs])]) (fun ⟨k, A1, c1, rs⟩ => [sl fp32 1 enInt A32 (intsL (suspV s.s l bag)), sl (fun b => b < w.heap.size) 3 encRo s.Ar s.rooms, sl (fun b => b < w.heap.size) 4 encGa s.Ag s.gates, sl (fun b => b < w.heap.size) 1 enInt s.As s.staff, sl (fun b => b < w.heap.size) 8 encCa A l]) (fun ⟨k, A1, c1, rs⟩ => k) (l.length, none, 0, []) (⟨Sw.start h1, Nat.zero_le _⟩) ⟨rfl, rfl, rfl, rfl, rfl, rfl, rfl, rfl, rfl, trivial⟩ ?_
        rintro ⟨k, A1, c1, rs⟩ ⟨hsw, hrl⟩
        dsimp only [List.cons_append, List.nil_append]
        refine cj_seq (cj_seq ?_)
        refine cj_regionG (gj_step (y_move rfl) rfl rfl rfl (gj_step (y_geq rfl rfl) rfl rfl rfl (gj_nil ?_)))
        refine ej_th ?_
        refine cj_cond rfl (fun h55 => ?_) (fun h55 => ?_)
        · have h55b := h55
          try simp only [sxb] at h55
          have hkl := hsw.le
          obtain ⟨j, rfl⟩ : ∃ j, k = j + 1 := ⟨k - 1, by omega⟩
          rw [show (((j + 1 : Nat) : Int) - 1) = (j : Int) by omega]
          obtain ⟨c, hck⟩ : ∃ c, l[j]? = some c := ⟨_, List.getElem?_eq_getElem (by omega)⟩
          refine cj_skip (ej_th (cj_seq (cj_block (cj_seq (cj_region ?_)))))
          refine oj_step (y_move rfl) rfl rfl rfl ?_
          refine oj_step (y_move rfl) rfl rfl rfl ?_
          refine oj_step (y_ixR (reads_sl) Try.underlying45 Try.sizeOf52 rfl rfl (⟨by omega, by omega⟩)) rfl rfl rfl ?_
          refine oj_step (y_ldW (reads_sl) Try.isAgg52 Try.sizeOf52 rfl (hck) (fun _ => rfl)) rfl rfl rfl ?_
          refine oj_alloc Try.zeroValue52 rfl rfl (fun b12 => ?_)
          refine oj_store rfl rfl rfl rfl Try.sizeOf52 rfl ?_
          refine oj_nil ?_
          refine ej_th (cj_seq (cj_seq ?_))
          refine cj_regionG (gj_step (y_fa fa52_2 rfl) rfl rfl rfl (gj_step (y_load1 Try.isAgg3 rfl rfl) rfl rfl rfl (gj_step (y_move rfl) rfl rfl rfl (gj_step (y_neq rfl rfl) rfl rfl rfl (gj_nil ?_)))))
          refine ej_th ?_
          refine cj_cond rfl (fun h65 => ?_) (fun h65 => ?_)
          · have h65b := h65
            try simp only [sxb] at h65
            refine cj_exit (ej_then_exit (ej_blk_hit (ej_th ?_)))
            refine cj_regionG (gj_step (y_move rfl) rfl rfl rfl (gj_step (y_sub rfl rfl (by omega)) rfl rfl rfl (gj_step (y_assign rfl) rfl rfl rfl (gj_nil ?_))))
            exact ej_nx (j, A1, c1, rs) (by first | omega | (simp only; omega)) ⟨hsw.other h1 hck (by simpa using h65), by first | omega | (simp only; omega)⟩ ⟨rfl, rfl, rfl, rfl, rfl, rfl, rfl, rfl, rfl, trivial⟩
          · have h65b := h65
            try simp only [sxb] at h65
            have hcb : c.bag = bag := by simpa using h65
            refine cj_skip (ej_th ?_)
            refine cj_cuti (X := Option Addr × Nat × List Int) [(11, _), (1, _), (3, _), (5, _), (6, _), (7, _), (8, _), (9, _), (12, _)] ⟨rfl, rfl, rfl, rfl, rfl, rfl, rfl, rfl, rfl, trivial⟩ (fun ⟨A2, c2, rs2⟩ => rs2 = if c.kind = 1 ∨ c.kind = 2 then rs ++ [c.to_] else rs) (fun ⟨A2, c2, rs2⟩ => [(10, .slice A2 rs2.length c2)]) (fun ⟨A2, c2, rs2⟩ => [ow 3 1 enInt A2 c2 rs2, ownB b12 (cellsB 52 (encCa c)), ownB b5 (cellsB 56 [.int .i64 n0, .int .i64 n1, .int .i64 n2, .int .i64 n3]), ownB b3 (cellsB 26 [.slice s.Ar s.rooms.length s.cr, .slice s.Ag s.gates.length s.cg, .slice s.As s.staff.length s.cs])]) (fun ⟨A2, c2, rs2⟩ => [sl fp32 1 enInt A32 (intsL (suspV s.s l bag)), sl (fun b => b < w.heap.size) 3 encRo s.Ar s.rooms, sl (fun b => b < w.heap.size) 4 encGa s.Ag s.gates, sl (fun b => b < w.heap.size) 1 enInt s.As s.staff, sl (fun b => b < w.heap.size) 8 encCa A l]) ?_ ?_
            · refine cj_seq ?_
              refine cj_regionG (gj_step (y_fa fa52_1 rfl) rfl rfl rfl (gj_step (y_load1 Try.isAgg3 rfl rfl) rfl rfl rfl (gj_step (y_eql rfl rfl) rfl rfl rfl (gj_step (y_move rfl) rfl rfl rfl (gj_g 3 69 72 rfl rfl rfl rfl (fun hg69 => gj_yes rfl rfl rfl (y_fa fa52_1 rfl) rfl rfl (gj_yes rfl rfl rfl (y_load1 Try.isAgg3 rfl rfl) rfl rfl (gj_yes rfl rfl rfl (y_eql rfl rfl) rfl rfl (gj_nil rfl)))) (gj_step (y_or rfl rfl rfl) rfl rfl rfl (gj_nil ?_)))))))
              refine ej_th ?_
              refine cj_cond rfl (fun h73 => ?_) (fun h73 => ?_)
              · have h73b := h73
                try simp only [sxb] at h73
                refine cj_region ?_
                refine oj_step (y_move rfl) rfl rfl rfl ?_
                refine oj_step (y_fa fa52_3 rfl) rfl rfl rfl ?_
                refine oj_step (y_load1 Try.isAgg3 rfl rfl) rfl rfl rfl ?_
                refine oj_buildSlice [.int .i64 0] Try.underlying24 Try.sizeOf3 Try.zeroValue3 rfl rfl (by kernel_rfl) rfl rfl (fun b77 => ?_)
                refine oj_append  el24 (fun _ => rfl) enInt_one rfl rfl rfl (reads_lit [c.to_] (fun _ => rfl) rfl) (by unfold maxLen; simp only [List.length_append, List.length_cons, List.length_nil]; omega) (by simp only [List.length_append, List.length_cons, List.length_nil]; omega) rfl (fun A78 c78 => ?_)
                refine oj_step (y_assign rfl) rfl rfl rfl ?_
                refine oj_nil ?_
                refine ej_takes [ow 3 1 enInt A78 c78 (rs ++ [c.to_]), ownB b12 (cellsB 52 (encCa c)), ownB b5 (cellsB 56 [.int .i64 n0, .int .i64 n1, .int .i64 n2, .int .i64 n3]), ownB b3 (cellsB 26 [.slice s.Ar s.rooms.length s.cr, .slice s.Ag s.gates.length s.cg, .slice s.As s.staff.length s.cs])] ?_
                exact ej_ct (A78, c78, rs ++ [c.to_]) (by rw [if_pos (by simpa using h73)]) ⟨rfl, rfl, rfl, rfl, rfl, rfl, rfl, rfl, rfl, rfl, trivial⟩
              · have h73b := h73
                try simp only [sxb] at h73
                refine cj_skip ?_
                refine ej_takes [ow 3 1 enInt A1 c1 rs, ownB b12 (cellsB 52 (encCa c)), ownB b5 (cellsB 56 [.int .i64 n0, .int .i64 n1, .int .i64 n2, .int .i64 n3]), ownB b3 (cellsB 26 [.slice s.Ar s.rooms.length s.cr, .slice s.Ag s.gates.length s.cg, .slice s.As s.staff.length s.cs])] ?_
                exact ej_ct (A1, c1, rs) (by rw [if_neg (by simpa using h73)]) ⟨rfl, rfl, rfl, rfl, rfl, rfl, rfl, rfl, rfl, rfl, trivial⟩
            · rintro ⟨A2, c2, rs2⟩ hrs2
              dsimp only [List.cons_append, List.nil_append]
              have hr2l : rs2.length ≤ l.length - j := by
                rw [hrs2]
                split
                · simp only [List.length_append, List.length_cons, List.length_nil]; omega
                · omega
              refine cj_seq ?_
              refine cj_regionG (gj_step (y_fa fa52_1 rfl) rfl rfl rfl (gj_step (y_load1 Try.isAgg3 rfl rfl) rfl rfl rfl (gj_step (y_neq rfl rfl) rfl rfl rfl (gj_nil ?_))))
              refine ej_th ?_
              refine cj_cond rfl (fun h81 => ?_) (fun h81 => ?_)
              · have h81b := h81
                try simp only [sxb] at h81
                refine cj_seq (cj_seq ?_)
                refine cj_regionG (gj_step (y_fa fa52_1 rfl) rfl rfl rfl (gj_step (y_load1 Try.isAgg3 rfl rfl) rfl rfl rfl (gj_step (y_neq rfl rfl) rfl rfl rfl (gj_nil ?_))))
                refine ej_th ?_
                refine cj_cond rfl (fun h84 => ?_) (fun h84 => ?_)
                · have h84b := h84
                  try simp only [sxb] at h84
                  have hr2 : rs2 = rs := by rw [hrs2, if_neg (by omega)]
                  subst hr2
                  obtain ⟨hsy, hsx0⟩ := hsw.stay h1 hck hcb h84 h81
                  refine cj_seq ?_
                  refine cj_regionG (gj_step (y_move rfl) rfl rfl rfl (gj_step (y_sub rfl rfl (by omega)) rfl rfl rfl (gj_step (y_assign rfl) rfl rfl rfl (gj_nil ?_))))
                  refine ej_th (cj_block ?_)
                  refine cj_lpic (X := Nat) [(11, _), (1, _), (3, _), (5, _), (6, _), (7, _), (8, _), (9, _)] (fun m => Sx_ s.s l bag (roomK s.s l bag (j + 1)) m ∧ m ≤ j) (fun m => [(10, .slice A2 rs2.length c2), (13, .int .i64 ((m : Int) - 1))]) (fun m => m) j (⟨hsx0, Nat.le_refl _⟩) ⟨rfl, rfl, rfl, rfl, rfl, rfl, rfl, rfl, rfl, rfl, trivial⟩ ?_
                  rintro m ⟨hsx, hmj⟩
                  dsimp only [List.cons_append, List.nil_append]
                  refine cj_seq (cj_seq ?_)
                  refine cj_regionG (gj_step (y_move rfl) rfl rfl rfl (gj_step (y_geq rfl rfl) rfl rfl rfl (gj_nil ?_)))
                  refine ej_th ?_
                  refine cj_cond rfl (fun h88 => ?_) (fun h88 => ?_)
                  · have h88b := h88
                    try simp only [sxb] at h88
                    have hml := hsx.le
                    obtain ⟨m1, rfl⟩ : ∃ m1, m = m1 + 1 := ⟨m - 1, by omega⟩
                    rw [show (((m1 + 1 : Nat) : Int) - 1) = (m1 : Int) by omega]
                    obtain ⟨d, hdk⟩ : ∃ d, l[m1]? = some d := ⟨_, List.getElem?_eq_getElem (by omega)⟩
                    refine cj_skip (ej_th (cj_seq (cj_block (cj_seq ?_))))
                    refine cj_regionG (gj_step (y_move rfl) rfl rfl rfl (gj_step (y_move rfl) rfl rfl rfl (gj_step (y_ixR (reads_sl) Try.underlying45 Try.sizeOf52 rfl rfl (⟨by omega, by omega⟩)) rfl rfl rfl (gj_step (y_faE fa52_2 rfl) rfl rfl rfl (gj_step (y_ld1 (reads_sl) Try.isAgg3 rfl (hdk) rfl) rfl rfl rfl (gj_step (y_move rfl) rfl rfl rfl (gj_step (y_eql rfl rfl) rfl rfl rfl (gj_step (y_move rfl) rfl rfl rfl (gj_g 14 98 112 rfl rfl rfl rfl (fun hg98 => gj_yes rfl rfl rfl (y_move rfl) rfl rfl (gj_yes rfl rfl rfl (y_move rfl) rfl rfl (gj_yes rfl rfl rfl (y_ixR (reads_sl) Try.underlying45 Try.sizeOf52 rfl rfl (⟨by omega, by omega⟩)) rfl rfl (gj_yes rfl rfl rfl (y_faE fa52_1 rfl) rfl rfl (gj_yes rfl rfl rfl (y_ld1 (reads_sl) Try.isAgg3 rfl (hdk) rfl) rfl rfl (gj_yes rfl rfl rfl (y_eql rfl rfl) rfl rfl (gj_yes rfl rfl rfl (y_move rfl) rfl rfl (gj_g 6 105 111 rfl rfl rfl rfl (fun hg105 => gj_yes rfl rfl rfl (y_move rfl) rfl rfl (gj_yes rfl rfl rfl (y_move rfl) rfl rfl (gj_yes rfl rfl rfl (y_ixR (reads_sl) Try.underlying45 Try.sizeOf52 rfl rfl (⟨by omega, by omega⟩)) rfl rfl (gj_yes rfl rfl rfl (y_faE fa52_1 rfl) rfl rfl (gj_yes rfl rfl rfl (y_ld1 (reads_sl) Try.isAgg3 rfl (hdk) rfl) rfl rfl (gj_yes rfl rfl rfl (y_eql rfl rfl) rfl rfl (gj_nil rfl))))))) (gj_yes rfl rfl rfl (y_or rfl rfl rfl) rfl rfl (gj_nil rfl)))))))))) (gj_step (y_and rfl rfl rfl) rfl rfl rfl (gj_nil ?_)))))))))))
                    refine ej_th ?_
                    refine cj_cond rfl (fun h113 => ?_) (fun h113 => ?_)
                    · have h113b := h113
                      try simp only [sxb] at h113
                      refine cj_seq (cj_region ?_)
                      refine oj_step (y_move rfl) rfl rfl rfl ?_
                      refine oj_step (y_move rfl) rfl rfl rfl ?_
                      refine oj_step (y_move rfl) rfl rfl rfl ?_
                      refine oj_step (y_ixR (reads_sl) Try.underlying45 Try.sizeOf52 rfl rfl (⟨by omega, by omega⟩)) rfl rfl rfl ?_
                      refine oj_step (y_faE fa52_3 rfl) rfl rfl rfl ?_
                      refine oj_step (y_ld1 (reads_sl) Try.isAgg3 rfl (hdk) rfl) rfl rfl rfl ?_
                      refine oj_buildSlice [.int .i64 0] Try.underlying24 Try.sizeOf3 Try.zeroValue3 rfl rfl (by kernel_rfl) rfl rfl (fun b120 => ?_)
                      refine oj_append  el24 (fun _ => rfl) enInt_one rfl rfl rfl (reads_lit [d.to_] (fun _ => rfl) rfl) (by unfold maxLen; simp only [List.length_append, List.length_cons, List.length_nil]; omega) (by simp only [List.length_append, List.length_cons, List.length_nil]; omega) rfl (fun A121 c121 => ?_)
                      refine oj_step (y_assign rfl) rfl rfl rfl ?_
                      refine oj_nil ?_
                      refine ej_th (cj_exit (ej_blk_pass rfl (ej_then_exit (ej_then_exit (ej_blk_hit (ej_th (cj_exit (ej_blk_pass rfl (ej_then_exit (ej_then_exit (ej_blk_hit ?_)))))))))))
                      refine ej_takes [ow 3 1 enInt A121 c121 (rs2 ++ [d.to_]), ownB b5 (cellsB 56 [.int .i64 n0, .int .i64 n1, .int .i64 n2, .int .i64 n3]), ownB b3 (cellsB 26 [.slice s.Ar s.rooms.length s.cr, .slice s.Ag s.gates.length s.cg, .slice s.As s.staff.length s.cs])] ?_
                      exact ej_ct (A121, c121, rs2 ++ [d.to_]) ⟨by rw [hsx.found h1 hdk (by have h9 := h113; omega) (by have h9 := h113; omega)]; exact hsy, by simp, by simp only [List.length_append, List.length_cons, List.length_nil]; omega⟩ ⟨rfl, rfl, rfl, rfl, rfl, rfl, rfl, rfl, trivial⟩
                    · have h113b := h113
                      try simp only [sxb] at h113
                      refine cj_skip (ej_blk (ej_th ?_))
                      refine cj_regionG (gj_step (y_move rfl) rfl rfl rfl (gj_step (y_sub rfl rfl (by omega)) rfl rfl rfl (gj_step (y_assign rfl) rfl rfl rfl (gj_nil ?_))))
                      exact ej_nx m1 (by omega) ⟨hsx.on h1 hdk (by have h9 := h113; omega), by omega⟩ ⟨rfl, rfl, rfl, rfl, rfl, rfl, rfl, rfl, rfl, rfl, trivial⟩
                  · rw [decide_eq_false_iff_not] at h88
                    have hm0 : m = 0 := by omega
                    subst hm0
                    exact (Sx_.end_ h1 hsx).elim
                · have h84b := h84
                  try simp only [sxb] at h84
                  have hk1 : c.kind = 1 := by simpa using h84
                  refine cj_skip (ej_th (cj_exit (ej_blk_pass rfl (ej_then_exit (ej_then_exit (ej_blk_hit ?_))))))
                  refine ej_takes [ow 3 1 enInt A2 c2 rs2, ownB b5 (cellsB 56 [.int .i64 n0, .int .i64 n1, .int .i64 n2, .int .i64 n3]), ownB b3 (cellsB 26 [.slice s.Ar s.rooms.length s.cr, .slice s.Ag s.gates.length s.cg, .slice s.As s.staff.length s.cs])] ?_
                  exact ej_ct (A2, c2, rs2) ⟨by rw [hrs2, if_pos (.inl hk1)]; exact hsw.in_ h1 hck hcb hk1, by rw [hrs2, if_pos (.inl hk1)]; simp, Nat.le_trans hr2l (Nat.sub_le _ _)⟩ ⟨rfl, rfl, rfl, rfl, rfl, rfl, rfl, rfl, trivial⟩
              · have h81b := h81
                try simp only [sxb] at h81
                have hk2 : c.kind = 2 := by simpa using h81
                refine cj_skip (ej_blk (ej_th ?_))
                refine cj_regionG (gj_step (y_move rfl) rfl rfl rfl (gj_step (y_sub rfl rfl (by omega)) rfl rfl rfl (gj_step (y_assign rfl) rfl rfl rfl (gj_nil ?_))))
                exact ej_nx (j, A2, c2, rs2) (by first | omega | (simp only; omega)) ⟨by rw [hrs2, if_pos (.inr hk2)]; exact hsw.move h1 hck hcb hk2, hr2l⟩ ⟨rfl, rfl, rfl, rfl, rfl, rfl, rfl, rfl, rfl, trivial⟩
        · rw [decide_eq_false_iff_not] at h55
          have hk0 : k = 0 := by omega
          subst hk0
          exact (Sw.end_ h1 hsw).elim
      · rintro ⟨A3, c3, rs3⟩ ⟨hs3, hne3, hl3⟩
        dsimp only [List.cons_append, List.nil_append]
        refine cj_seq (cj_seq ?_)
        refine cj_regionG (gj_step (y_move rfl) rfl rfl rfl (gj_step (y_lenA Try.underlying24 rfl) rfl rfl rfl (gj_step (y_eql rfl rfl) rfl rfl rfl (gj_nil ?_))))
        refine ej_th ?_
        refine cj_cond rfl (fun h124 => ?_) (fun h124 => ?_)
        · rw [beq_iff_eq] at h124
          exact absurd (List.length_eq_zero_iff.1 (by omega)) hne3
        · have h124b := h124
          try simp only [sxb] at h124
          have h3l : rs3.length ≠ 0 := by simpa using h124
          have hrb1 := ringI_bd n1 (rs3.length : Int) (by omega)
          obtain ⟨r, hr⟩ : ∃ r, rs3[(ringI n1 (rs3.length : Int)).toNat]? = some r := ⟨_, List.getElem?_eq_getElem (by omega)⟩
          have hrs : r ∈ sinceL s.s l bag l.length := by rw [hs3, List.mem_reverse]; exact List.mem_of_getElem? hr
          have hrbd := (since_bd hbg l.length).1 r hrs
          have hrb2 := ringI_bd n2 ((2 ^ s.staff.length : Nat) : Int) (by omega)
          refine cj_skip (ej_th (cj_seq ?_))
          refine cj_regionG ?_
          refine gj_step (y_move rfl) rfl rfl rfl (gj_step (y_ixArrC 1 Try.underlying56 Try.sizeOf3 rfl rfl (by decide) (by decide)) rfl rfl rfl (gj_step (y_load1 Try.isAgg3 rfl rfl) rfl rfl rfl (gj_step (y_move rfl) rfl rfl rfl (gj_step (y_lenA Try.underlying24 rfl) rfl rfl rfl (?_)))))
          refine gj_step (y_call Try.call33 rfl (fun w hp => k_Ring n1 (rs3.length : Int) w (by omega))) rfl rfl rfl ?_
          refine gj_step (y_ixR (reads_owI) Try.underlying24 Try.sizeOf3 rfl rfl (⟨by omega, by omega⟩)) rfl rfl rfl (gj_step (y_ld0 (reads_owI) Try.isAgg3 rfl (hr) rfl) rfl rfl rfl (gj_step (y_assign rfl) rfl rfl rfl (?_)))
          refine gj_nil ?_
          refine ej_th (cj_seq ?_)
          refine cj_draw (by kernel_rfl) (by kernel_rfl) ?_
          refine gj_step (y_ixArrC 2 Try.underlying56 Try.sizeOf3 rfl rfl (by decide) (by decide)) rfl rfl rfl (gj_step (y_load1 Try.isAgg3 rfl rfl) rfl rfl rfl (gj_step (y_fa fa26_2 rfl) rfl rfl rfl (gj_step (y_load1 Try.isAgg24 rfl rfl) rfl rfl rfl (gj_step (y_lenA Try.underlying24 rfl) rfl rfl rfl (gj_step (y_minR rfl rfl (by omega)) rfl rfl rfl (gj_step (y_shl1 rfl rfl (by omega)) rfl rfl rfl (?_)))))))
          refine gj_step (y_call Try.call33 rfl (fun w hp => k_Ring n2 ((2 ^ s.staff.length : Nat) : Int) w (by omega))) rfl rfl rfl ?_
          refine gj_step (y_assign rfl) rfl rfl rfl (?_)
          refine gj_nil ?_
          refine ej_th (cj_seq ?_)
          obtain ⟨g, hg⟩ : ∃ g : Nat, ringI n2 ((2 ^ s.staff.length : Nat) : Int) = (g : Nat) := ⟨_, (Int.toNat_of_nonneg hrb2.1).symm⟩
          rw [hg] at hrb2 ⊢
          have hgl : g < 2 ^ s.staff.length := by omega
          have hq1 : askE s (g : Nat) = 0 := by rw [askE, if_pos hb, if_pos (btw_t.2 (by omega))]
          have hq2 : EntV s (g : Nat) = (reachV s.s g : Nat) := by rw [EntV, if_pos hq1]; rfl
          refine cj_regionG ?_
          refine gj_step (y_loadN Try.isAgg26 Try.sizeOf26 rfl) rfl rfl rfl (gj_step (y_move rfl) rfl rfl rfl (?_))
          refine gj_step (y_call Try.call13 rfl (fun w hp => k_Enter s (g : Nat) w (hs.mono hp.below))) rfl rfl rfl ?_
          refine gj_step (y_move rfl) rfl rfl rfl (gj_step (y_extract rfl rfl) rfl rfl rfl (gj_step (y_extract rfl rfl) rfl rfl rfl (gj_step (y_assign rfl) rfl rfl rfl (gj_step (y_assign rfl) rfl rfl rfl (?_)))))
          refine gj_nil ?_
          refine ej_th (cj_seq (cj_seq ?_))
          rw [hq1, hq2]
          refine cj_regionG ?_
          refine gj_step (y_move rfl) rfl rfl rfl (gj_step (y_neq rfl rfl) rfl rfl rfl (gj_step (y_move rfl) rfl rfl rfl (?_)))
          refine gj_g 3 149 152 rfl rfl rfl rfl (fun hg149 => gj_yes rfl rfl rfl (y_move rfl) rfl rfl (gj_yes rfl rfl rfl (y_call Try.call27 rfl (fun w hp => k_From _ _ _ w)) rfl rfl (gj_yes rfl rfl rfl (y_not rfl) rfl rfl (gj_nil rfl)))) ?_
          refine gj_step (y_or rfl rfl rfl) rfl rfl rfl (?_)
          refine gj_nil ?_
          refine ej_th ?_
          refine cj_cond rfl (fun h153 => ?_) (fun h153 => ?_)
          · simp [btw_t.2 hrbd] at h153
          · have h153b := h153
            try simp only [sxb] at h153
            refine cj_skip (ej_th (cj_seq ?_))
            refine cj_regionG (gj_step (y_assign rfl) rfl rfl rfl (gj_nil ?_))
            refine ej_th (cj_seq (cj_seq ?_))
            refine cj_regionG (gj_step (y_assign rfl) rfl rfl rfl (gj_nil ?_))
            refine ej_th (cj_block ?_)
            refine cj_lpic (X := Nat × Bool) [(1, _), (3, _), (5, _), (6, _), (7, _), (8, _), (9, _), (14, _), (15, _), (16, _)] (fun ⟨i, b⟩ => i ≤ (suspV s.s l bag).length ∧ b = ((suspV s.s l bag).take i).any fun x => hasN g x) (fun ⟨i, b⟩ => [(17, .bool b), (18, .int .i64 (i : Nat))]) (fun ⟨i, b⟩ => (suspV s.s l bag).length - i) (0, false) (⟨Nat.zero_le _, rfl⟩) ⟨rfl, rfl, rfl, rfl, rfl, rfl, rfl, rfl, rfl, rfl, rfl, rfl, trivial⟩ ?_
            rintro ⟨i, b⟩ ⟨hi, hbs⟩
            dsimp only [List.cons_append, List.nil_append]
            refine cj_seq (cj_seq ?_)
            refine cj_regionG (gj_step (y_move rfl) rfl rfl rfl (gj_step (y_move rfl) rfl rfl rfl (gj_step (y_lenA Try.underlying24 rfl) rfl rfl rfl (gj_step (y_lss rfl rfl) rfl rfl rfl (gj_nil ?_)))))
            refine ej_th ?_
            refine cj_cond rfl (fun h157 => ?_) (fun h157 => ?_)
            · have h157b := h157
              try simp only [sxb] at h157
              obtain ⟨x, hx⟩ : ∃ x, (suspV s.s l bag)[i]? = some x := ⟨_, List.getElem?_eq_getElem (by omega)⟩
              have hx64 := hslt x (List.mem_of_getElem? hx)
              refine cj_skip (ej_th (cj_seq (cj_block ?_)))
              refine cj_regionG ?_
              refine gj_step (y_move rfl) rfl rfl rfl (gj_step (y_move rfl) rfl rfl rfl (?_))
              refine gj_g 6 161 167 rfl rfl rfl rfl (fun hg161 => gj_yes rfl rfl rfl (y_move rfl) rfl rfl (gj_yes rfl rfl rfl (y_move rfl) rfl rfl (gj_yes rfl rfl rfl (y_ixR (reads_sl) Try.underlying24 Try.sizeOf3 rfl rfl (⟨by omega, by omega⟩)) rfl rfl (gj_yes rfl rfl rfl (y_ld0 (reads_sl) Try.isAgg3 rfl (get_ints hx) rfl) rfl rfl (gj_yes rfl rfl rfl (y_move rfl) rfl rfl (gj_yes rfl rfl rfl (y_call Try.call25 rfl (fun w hp => k_inS x g w (by omega) (by omega))) rfl rfl (gj_nil rfl))))))) ?_
              refine gj_step (y_or rfl rfl rfl) rfl rfl rfl (gj_step (y_assign rfl) rfl rfl rfl (?_))
              refine gj_nil ?_
              refine ej_blk (ej_th ?_)
              refine cj_regionG (gj_step (y_move rfl) rfl rfl rfl (gj_step (y_add rfl rfl (by omega)) rfl rfl rfl (gj_step (y_assign rfl) rfl rfl rfl (gj_nil ?_))))
              exact ej_nx (i + 1, b || hasN g x) (by first | omega | (simp only; omega)) ⟨by first | omega | (simp only; omega), by rw [any_take (fun x => hasN g x) hx, ← hbs]⟩ ⟨rfl, rfl, rfl, rfl, rfl, rfl, rfl, rfl, rfl, rfl, rfl, rfl, trivial⟩
            · have h157b := h157
              try simp only [sxb] at h157
              have hsm : b = (suspV s.s l bag).any (fun x => hasN g x) := by rw [hbs, List.take_of_length_le (by omega)]
              refine cj_exit (ej_then_exit (ej_then_exit (ej_blk_hit (ej_th (cj_seq (cj_seq ?_))))))
              refine cj_regionG ?_
              refine gj_step (y_move rfl) rfl rfl rfl (gj_step (y_move rfl) rfl rfl rfl (?_))
              refine gj_step (y_call Try.call29 rfl (fun w hp => k_BitI (reachV s.s g) r w (by omega))) rfl rfl rfl ?_
              refine gj_step (y_move rfl) rfl rfl rfl (?_)
              refine gj_g 2 172 174 rfl rfl rfl rfl (fun hg172 => gj_yes rfl rfl rfl (y_move rfl) rfl rfl (gj_yes rfl rfl rfl (y_not rfl) rfl rfl (gj_nil rfl))) ?_
              refine gj_step (y_and rfl rfl rfl) rfl rfl rfl (?_)
              refine gj_nil ?_
              refine ej_th ?_
              refine cj_cond rfl (fun h175 => ?_) (fun h175 => ?_)
              · rw [Bool.and_eq_true] at h175
                have h9 := swap_law h1 hrs hgl h175.1
                rw [hsm, h9] at h175
                exact absurd h175.2 (by decide)
              · have h175b := h175
                try simp only [sxb] at h175
                refine cj_skip (ej_th (cj_seq (cj_region ?_)))
                refine oj_step (y_loadN Try.isAgg26 Try.sizeOf26 rfl) rfl rfl rfl ?_
                refine oj_step (y_move rfl) rfl rfl rfl ?_
                refine oj_step (y_call Try.call30 rfl (fun w hp => k_Play s l A cc w (hs.mono hp.below) hp.rd)) rfl rfl rfl ?_
                refine oj_step (y_move rfl) rfl rfl rfl ?_
                refine oj_step (y_extract rfl rfl) rfl rfl rfl ?_
                refine oj_step (y_extract rfl rfl) rfl rfl rfl ?_
                refine oj_step (y_extract rfl rfl) rfl rfl rfl ?_
                refine oj_alloc Try.zeroValue48 rfl rfl (fun b19 => ?_)
                refine oj_store (vs := ((playB s.s l).flatMap encBa)) (n := 160) (hset := set_all _ _ (by rw [bf_len hpl]; rfl)) rfl rfl rfl (bf_one _) Try.sizeOf48 (bf_len hpl) ?_
                refine oj_step (y_assign rfl) rfl rfl rfl ?_
                refine oj_step (y_assign rfl) rfl rfl rfl ?_
                refine oj_nil ?_
                refine ej_th (cj_seq (cj_seq ?_))
                rw [h0]
                refine cj_regionG (gj_step (y_move rfl) rfl rfl rfl (gj_step (y_neq rfl rfl) rfl rfl rfl (gj_step (y_move rfl) rfl rfl rfl (gj_g 3 185 188 rfl rfl rfl rfl (fun hg185 => gj_yes rfl rfl rfl (y_move rfl) rfl rfl (gj_yes rfl rfl rfl (y_lenA Try.underlying45 rfl) rfl rfl (gj_yes rfl rfl rfl (y_eql rfl rfl) rfl rfl (gj_nil rfl)))) (gj_step (y_or rfl rfl rfl) rfl rfl rfl (gj_nil ?_))))))
                refine ej_th ?_
                refine cj_cond rfl (fun h189 => ?_) (fun h189 => ?_)
                · simp [hlne] at h189
                · have h189b := h189
                  try simp only [sxb] at h189
                  have hrb3 := ringI_bd n3 999999 (by omega)
                  obtain ⟨bx, hbx⟩ : ∃ bx, (playB s.s l).getD bag.toNat bag0 = bx := ⟨_, rfl⟩
                  have hbk : (playB s.s l)[bag.toNat]? = some bx := by rw [← hbx]; exact play_bag s.s l bag hbg
                  obtain ⟨z, hz⟩ : ∃ z, l[((l.length : Int) - 1).toNat]? = some z := ⟨_, List.getElem?_eq_getElem (by omega)⟩
                  have hzl : l.getLast?.map (·.day) = some z.day := by
                    rw [List.getLast?_eq_getElem?, ← show ((l.length : Int) - 1).toNat = l.length - 1 by omega, hz]; rfl
                  obtain ⟨hp1, hp2⟩ := swap_check h1 hzl (wrong := (1 + ringI n3 999999)) (by omega) bx hbx
                  refine cj_skip (ej_th (cj_seq ?_))
                  refine cj_regionG ?_
                  refine gj_step (y_ixArrC 3 Try.underlying56 Try.sizeOf3 rfl rfl (by decide) (by decide)) rfl rfl rfl (gj_step (y_load1 Try.isAgg3 rfl rfl) rfl rfl rfl (?_))
                  refine gj_step (y_call Try.call33 rfl (fun w hp => k_Ring n3 999999 w (by omega))) rfl rfl rfl ?_
                  refine gj_step (y_add rfl rfl (by omega)) rfl rfl rfl (gj_step (y_assign rfl) rfl rfl rfl (?_))
                  refine gj_nil ?_
                  refine ej_th (cj_seq ?_)
                  refine cj_plan 20 (by kernel_rfl) (by kernel_rfl) ?_
                  refine pl_y 0 rfl (y_move rfl) rfl rfl rfl rfl (by kernel_rfl) ?_
                  refine pl_y 1 rfl (y_move rfl) rfl rfl rfl rfl (by kernel_rfl) ?_
                  refine pl_y 2 rfl (y_lenA Try.underlying45 rfl) rfl rfl rfl rfl (by kernel_rfl) ?_
                  refine pl_y 3 rfl (y_sub rfl rfl (by omega)) rfl rfl rfl rfl (by kernel_rfl) ?_
                  refine pl_y 4 rfl (y_ixR (reads_sl) Try.underlying45 Try.sizeOf52 rfl rfl (⟨by omega, by omega⟩)) rfl rfl rfl rfl (by kernel_rfl) ?_
                  refine pl_y 5 rfl (y_faE fa52_0 rfl) rfl rfl rfl rfl (by kernel_rfl) ?_
                  refine pl_y 6 rfl (y_ld1 (reads_sl) Try.isAgg3 rfl (hz) rfl) rfl rfl rfl rfl (by kernel_rfl) ?_
                  refine pl_y 7 rfl (y_move rfl) rfl rfl rfl rfl (by kernel_rfl) ?_
                  refine pl_y 8 rfl (y_move rfl) rfl rfl rfl rfl (by kernel_rfl) ?_
                  refine pl_y 9 rfl (y_ixArr Try.underlying48 Try.sizeOf47 rfl rfl (by omega)) rfl rfl rfl rfl (by kernel_rfl) ?_
                  refine pl_y 10 rfl (y_fa fa47_3 rfl) rfl rfl rfl rfl (by kernel_rfl) ?_
                  refine pl_y 11 rfl (y_load1 Try.isAgg3 rfl (show (((playB s.s l).flatMap encBa))[0 + bag.toNat * 5 + 3]? = _ from bf_cell hbk (j := 3) (by omega))) rfl rfl rfl rfl (by kernel_rfl) ?_
                  refine pl_y 12 rfl (y_move rfl) rfl rfl rfl rfl (by kernel_rfl) ?_
                  refine pl_y 13 rfl (y_ixArr Try.underlying48 Try.sizeOf47 rfl rfl (by omega)) rfl rfl rfl rfl (by kernel_rfl) ?_
                  refine pl_y 14 rfl (y_fa fa47_4 rfl) rfl rfl rfl rfl (by kernel_rfl) ?_
                  refine pl_y 15 rfl (y_load1 Try.isAgg3 rfl (show (((playB s.s l).flatMap encBa))[0 + bag.toNat * 5 + 4]? = _ from bf_cell hbk (j := 4) (by omega))) rfl rfl rfl rfl (by kernel_rfl) ?_
                  refine pl_y 16 rfl (y_move rfl) rfl rfl rfl rfl (by kernel_rfl) ?_
                  refine pl_y 17 rfl (y_build (cs := [.int .i64 z.day, .int .i64 3, .int .i64 bag, .int .i64 0, .int .i64 bx.by_, .int .i64 bx.with_, .int .i64 (1 + ringI n3 999999), .int .i64 0]) st52 rfl (by kernel_rfl)) rfl rfl rfl rfl (by kernel_rfl) ?_
                  refine pl_w1 18 (by kernel_rfl) rfl rfl (pl_fire rfl rfl rfl (by kernel_rfl) ?_)
                  refine oj_alloc Try.zeroValue52 rfl rfl (fun b22 => ?_)
                  refine oj_nil ?_
                  refine ej_pl (lt_y (y_build (cs := [.int .i64 z.day, .int .i64 3, .int .i64 bag, .int .i64 0, .int .i64 bx.by_, .int .i64 bx.with_, .int .i64 (1 + ringI n3 999999), .int .i64 0]) st52 rfl (by kernel_rfl)) rfl (lt_y (y_move rfl) rfl (lt_y (y_load1 Try.isAgg3 rfl (show (((playB s.s l).flatMap encBa))[0 + bag.toNat * 5 + 4]? = _ from bf_cell hbk (j := 4) (by omega))) rfl (lt_y (y_fa fa47_4 rfl) rfl (lt_y (y_ixArr Try.underlying48 Try.sizeOf47 rfl rfl (by omega)) rfl (lt_y (y_move rfl) rfl (lt_y (y_load1 Try.isAgg3 rfl (show (((playB s.s l).flatMap encBa))[0 + bag.toNat * 5 + 3]? = _ from bf_cell hbk (j := 3) (by omega))) rfl (lt_y (y_fa fa47_3 rfl) rfl (lt_y (y_ixArr Try.underlying48 Try.sizeOf47 rfl rfl (by omega)) rfl (lt_y (y_move rfl) rfl (lt_y (y_move rfl) rfl (lt_y (y_ld1 (reads_sl) Try.isAgg3 rfl (hz) rfl) rfl (lt_y (y_faE fa52_0 rfl) rfl (lt_y (y_ixR (reads_sl) Try.underlying45 Try.sizeOf52 rfl rfl (⟨by omega, by omega⟩)) rfl (lt_y (y_sub rfl rfl (by omega)) rfl (lt_y (y_lenA Try.underlying45 rfl) rfl (lt_y (y_move rfl) rfl (lt_y (y_move rfl) rfl (lt_nil))))))))))))))))))) ?_
                  refine pl_w1 19 (by kernel_rfl) rfl rfl (pl_fire rfl rfl rfl (by kernel_rfl) ?_)
                  refine oj_store rfl rfl rfl rfl Try.sizeOf52 rfl ?_
                  refine oj_nil ?_
                  refine ej_pl (lt_w (by kernel_rfl) (lt_w (by kernel_rfl) (lt_w (by kernel_rfl) (lt_w (by kernel_rfl) (lt_w (by kernel_rfl) (lt_w (by kernel_rfl) (lt_w (by kernel_rfl) (lt_w (by kernel_rfl) (lt_w (by kernel_rfl) (lt_w (by kernel_rfl) (lt_w (by kernel_rfl) (lt_w (by kernel_rfl) (lt_w (by kernel_rfl) (lt_w (by kernel_rfl) (lt_w (by kernel_rfl) (lt_w (by kernel_rfl) (lt_w (by kernel_rfl) (lt_w (by kernel_rfl) (lt_nil))))))))))))))))))) ?_
                  refine pl_end (by kernel_rfl) ?_
                  refine ej_th ?_
                  refine cj_cuti (X := Unit) [(1, _), (6, _), (7, _), (19, _), (21, _)] ⟨rfl, rfl, rfl, rfl, rfl, trivial⟩ (fun _ => True) (fun _ => [(24, .int .i64 (playAt s.s (l ++ [(⟨z.day, 3, bag, 0, bx.by_, bx.with_, (1 + ringI n3 999999), 0⟩ : CarryV)]) : Nat)), (9, .int .i64 (playE s.s (l ++ [(⟨z.day, 3, bag, 0, bx.by_, bx.with_, (1 + ringI n3 999999), 0⟩ : CarryV)])))]) (fun _ => [ownB b19 (cellsB 48 ((playB s.s l).flatMap encBa))]) (fun _ => [sl fp32 1 enInt A32 (intsL (suspV s.s l bag)), sl (fun b => b < w.heap.size) 3 encRo s.Ar s.rooms, sl (fun b => b < w.heap.size) 4 encGa s.Ag s.gates, sl (fun b => b < w.heap.size) 1 enInt s.As s.staff, sl (fun b => b < w.heap.size) 8 encCa A l]) ?_ ?_
                  · refine cj_plan 16 (by kernel_rfl) (by kernel_rfl) ?_
                    refine pl_y 0 rfl (y_loadN Try.isAgg26 Try.sizeOf26 rfl) rfl rfl rfl rfl (by kernel_rfl) ?_
                    refine pl_y 2 rfl (y_move rfl) rfl rfl rfl rfl (by kernel_rfl) ?_
                    refine pl_y 4 rfl (y_loadN Try.isAgg52 Try.sizeOf52 rfl) rfl rfl rfl rfl (by kernel_rfl) ?_
                    refine pl_w3 1 5 12 (by kernel_rfl) rfl rfl (pl_fire rfl rfl rfl (by kernel_rfl) ?_) (pl_fire rfl rfl rfl (by kernel_rfl) ?_) (pl_fire rfl rfl rfl (by kernel_rfl) ?_)
                    · refine oj_buildSlice (cs := []) [] Try.underlying45 Try.sizeOf52 Try.zeroValue52 rfl rfl (by kernel_rfl) (by kernel_rfl) rfl (fun b214 => ?_)
                      refine oj_litOw (b := b214) (e := 52) (c := 0) (sz := 8) (enc := encCa) [] rfl rfl rfl (by unfold maxLen; simp) ?_
                      refine oj_nil ?_
                      refine ej_pl (lt_y (y_loadN Try.isAgg52 Try.sizeOf52 rfl) rfl (lt_y (y_move rfl) rfl (lt_y (y_loadN Try.isAgg26 Try.sizeOf26 rfl) rfl (lt_nil)))) ?_
                      refine pl_w3 3 5 12 (by kernel_rfl) rfl rfl (pl_fire rfl rfl rfl (by kernel_rfl) ?_) (pl_fire rfl rfl rfl (by kernel_rfl) ?_) (pl_fire rfl rfl rfl (by kernel_rfl) ?_)
                      · refine oj_append (xs := ([] : List CarryV)) (c := 0) el45 (fun _ => rfl) encCa_one rfl rfl rfl (reads_sl) (by unfold maxLen; simp only [List.length_nil]; omega) (by simp only [List.length_nil]; omega) rfl (fun A216 c216 => ?_)
                        refine oj_nil ?_
                        refine ej_pl (lt_y (y_loadN Try.isAgg52 Try.sizeOf52 rfl) rfl (lt_w (by kernel_rfl) (lt_y (y_loadN Try.isAgg26 Try.sizeOf26 rfl) rfl (lt_nil)))) ?_
                        refine pl_w2 5 12 (by kernel_rfl) rfl rfl (pl_fire rfl rfl rfl (by kernel_rfl) ?_) (pl_fire rfl rfl rfl (by kernel_rfl) ?_)
                        · refine oj_buildSlice (cs := [.int .i64 z.day, .int .i64 3, .int .i64 bag, .int .i64 0, .int .i64 bx.by_, .int .i64 bx.with_, .int .i64 (1 + ringI n3 999999), .int .i64 0]) [.int .i64 0, .int .i64 0, .int .i64 0, .int .i64 0, .int .i64 0, .int .i64 0, .int .i64 0, .int .i64 0] Try.underlying45 Try.sizeOf52 Try.zeroValue52 rfl rfl (by kernel_rfl) (by kernel_rfl) rfl (fun b218 => ?_)
                          refine oj_nil ?_
                          refine ej_pl (lt_w (by kernel_rfl) (lt_y (y_move rfl) rfl (lt_y (y_loadN Try.isAgg26 Try.sizeOf26 rfl) rfl (lt_nil)))) ?_
                          refine pl_w2 6 12 (by kernel_rfl) rfl rfl (pl_fire rfl rfl rfl (by kernel_rfl) ?_) (pl_fire rfl rfl rfl (by kernel_rfl) ?_)
                          · refine oj_append  el45 (fun _ => rfl) encCa_one rfl rfl rfl (reads_lit [(⟨z.day, 3, bag, 0, bx.by_, bx.with_, (1 + ringI n3 999999), 0⟩ : CarryV)] (fun _ => rfl) rfl) (by unfold maxLen; simp only [List.length_nil, List.length_append, List.length_cons]; omega) (by simp only [List.length_nil, List.length_append, List.length_cons]; omega) rfl (fun A219 c219 => ?_)
                            refine oj_nil ?_
                            refine ej_pl (lt_y (y_loadN Try.isAgg52 Try.sizeOf52 rfl) rfl (lt_y (y_move rfl) rfl (lt_y (y_loadN Try.isAgg26 Try.sizeOf26 rfl) rfl (lt_nil)))) ?_
                            refine pl_y 7 rfl (y_call Try.call30 rfl (fun w hp => k_Play s ((([] : List CarryV) ++ l) ++ [(⟨z.day, 3, bag, 0, bx.by_, bx.with_, (1 + ringI n3 999999), 0⟩ : CarryV)]) A219 c219 w (hs.mono hp.below) (hp.rdO (fun _ => rfl) (by unfold maxLen; simp only [List.length_append, List.length_cons, List.length_nil]; omega)))) rfl rfl rfl rfl (by kernel_rfl) ?_
                            refine pl_y 8 rfl (y_move rfl) rfl rfl rfl rfl (by kernel_rfl) ?_
                            refine pl_y 9 rfl (y_extract rfl rfl) rfl rfl rfl rfl (by kernel_rfl) ?_
                            refine pl_y 10 rfl (y_extract rfl rfl) rfl rfl rfl rfl (by kernel_rfl) ?_
                            refine pl_y 11 rfl (y_extract rfl rfl) rfl rfl rfl rfl (by kernel_rfl) ?_
                            refine pl_w1 12 (by kernel_rfl) rfl rfl (pl_fire rfl rfl rfl (by kernel_rfl) ?_)
                            refine oj_alloc Try.zeroValue48 rfl rfl (fun b23 => ?_)
                            refine oj_nil ?_
                            refine ej_pl (lt_y (y_extract rfl rfl) rfl (lt_y (y_extract rfl rfl) rfl (lt_y (y_extract rfl rfl) rfl (lt_y (y_move rfl) rfl (lt_y (y_call Try.call30 rfl (fun w hp => k_Play s ((([] : List CarryV) ++ l) ++ [(⟨z.day, 3, bag, 0, bx.by_, bx.with_, (1 + ringI n3 999999), 0⟩ : CarryV)]) A219 c219 w (hs.mono hp.below) (hp.rdO (fun _ => rfl) (by unfold maxLen; simp only [List.length_append, List.length_cons, List.length_nil]; omega)))) rfl (lt_y (y_loadN Try.isAgg52 Try.sizeOf52 rfl) rfl (lt_y (y_move rfl) rfl (lt_y (y_loadN Try.isAgg26 Try.sizeOf26 rfl) rfl (lt_nil))))))))) ?_
                            refine pl_w1 13 (by kernel_rfl) rfl rfl (pl_fire rfl rfl rfl (by kernel_rfl) ?_)
                            refine oj_store (vs := ((playB s.s ((([] : List CarryV) ++ l) ++ [(⟨z.day, 3, bag, 0, bx.by_, bx.with_, (1 + ringI n3 999999), 0⟩ : CarryV)])).flatMap encBa)) (n := 160) (hset := set_all _ _ (by rw [bf_len (playB_len _)]; rfl)) rfl rfl rfl (bf_one _) Try.sizeOf48 (bf_len (playB_len _)) ?_
                            refine oj_nil ?_
                            refine ej_pl (lt_y (y_extract rfl rfl) rfl (lt_y (y_extract rfl rfl) rfl (lt_w (by kernel_rfl) (lt_w (by kernel_rfl) (lt_w (by kernel_rfl) (lt_w (by kernel_rfl) (lt_w (by kernel_rfl) (lt_w (by kernel_rfl) (lt_nil))))))))) ?_
                            refine pl_y 14 rfl (y_assign rfl) rfl rfl rfl rfl (by kernel_rfl) ?_
                            refine pl_y 15 rfl (y_assign rfl) rfl rfl rfl rfl (by kernel_rfl) ?_
                            refine pl_end (by kernel_rfl) ?_
                            refine ej_takes [ownB b19 (cellsB 48 ((playB s.s l).flatMap encBa))] ?_
                            exact ej_ct () trivial ⟨rfl, rfl, rfl, rfl, rfl, rfl, rfl, trivial⟩
                          · refine oj_alloc Try.zeroValue48 rfl rfl (fun b23 => ?_)
                            refine oj_nil ?_
                            refine ej_pl (lt_y (y_loadN Try.isAgg52 Try.sizeOf52 rfl) rfl (lt_y (y_move rfl) rfl (lt_y (y_loadN Try.isAgg26 Try.sizeOf26 rfl) rfl (lt_nil)))) ?_
                            refine pl_w1 6 (by kernel_rfl) rfl rfl (pl_fire rfl rfl rfl (by kernel_rfl) ?_)
                            refine oj_append  el45 (fun _ => rfl) encCa_one rfl rfl rfl (reads_lit [(⟨z.day, 3, bag, 0, bx.by_, bx.with_, (1 + ringI n3 999999), 0⟩ : CarryV)] (fun _ => rfl) rfl) (by unfold maxLen; simp only [List.length_nil, List.length_append, List.length_cons]; omega) (by simp only [List.length_nil, List.length_append, List.length_cons]; omega) rfl (fun A219 c219 => ?_)
                            refine oj_nil ?_
                            refine ej_pl (lt_y (y_loadN Try.isAgg52 Try.sizeOf52 rfl) rfl (lt_y (y_move rfl) rfl (lt_y (y_loadN Try.isAgg26 Try.sizeOf26 rfl) rfl (lt_nil)))) ?_
                            refine pl_y 7 rfl (y_call Try.call30 rfl (fun w hp => k_Play s ((([] : List CarryV) ++ l) ++ [(⟨z.day, 3, bag, 0, bx.by_, bx.with_, (1 + ringI n3 999999), 0⟩ : CarryV)]) A219 c219 w (hs.mono hp.below) (hp.rdO (fun _ => rfl) (by unfold maxLen; simp only [List.length_append, List.length_cons, List.length_nil]; omega)))) rfl rfl rfl rfl (by kernel_rfl) ?_
                            refine pl_y 8 rfl (y_move rfl) rfl rfl rfl rfl (by kernel_rfl) ?_
                            refine pl_y 9 rfl (y_extract rfl rfl) rfl rfl rfl rfl (by kernel_rfl) ?_
                            refine pl_y 10 rfl (y_extract rfl rfl) rfl rfl rfl rfl (by kernel_rfl) ?_
                            refine pl_y 11 rfl (y_extract rfl rfl) rfl rfl rfl rfl (by kernel_rfl) ?_
                            refine pl_w1 13 (by kernel_rfl) rfl rfl (pl_fire rfl rfl rfl (by kernel_rfl) ?_)
                            refine oj_store (vs := ((playB s.s ((([] : List CarryV) ++ l) ++ [(⟨z.day, 3, bag, 0, bx.by_, bx.with_, (1 + ringI n3 999999), 0⟩ : CarryV)])).flatMap encBa)) (n := 160) (hset := set_all _ _ (by rw [bf_len (playB_len _)]; rfl)) rfl rfl rfl (bf_one _) Try.sizeOf48 (bf_len (playB_len _)) ?_
                            refine oj_nil ?_
                            refine ej_pl (lt_y (y_extract rfl rfl) rfl (lt_y (y_extract rfl rfl) rfl (lt_w (by kernel_rfl) (lt_w (by kernel_rfl) (lt_w (by kernel_rfl) (lt_w (by kernel_rfl) (lt_w (by kernel_rfl) (lt_w (by kernel_rfl) (lt_nil))))))))) ?_
                            refine pl_y 14 rfl (y_assign rfl) rfl rfl rfl rfl (by kernel_rfl) ?_
                            refine pl_y 15 rfl (y_assign rfl) rfl rfl rfl rfl (by kernel_rfl) ?_
                            refine pl_end (by kernel_rfl) ?_
                            refine ej_takes [ownB b19 (cellsB 48 ((playB s.s l).flatMap encBa))] ?_
                            exact ej_ct () trivial ⟨rfl, rfl, rfl, rfl, rfl, rfl, rfl, trivial⟩
                        · refine oj_alloc Try.zeroValue48 rfl rfl (fun b23 => ?_)
                          refine oj_nil ?_
                          refine ej_pl (lt_y (y_loadN Try.isAgg52 Try.sizeOf52 rfl) rfl (lt_y (y_move rfl) rfl (lt_y (y_loadN Try.isAgg26 Try.sizeOf26 rfl) rfl (lt_nil)))) ?_
                          refine pl_w1 5 (by kernel_rfl) rfl rfl (pl_fire rfl rfl rfl (by kernel_rfl) ?_)
                          refine oj_buildSlice (cs := [.int .i64 z.day, .int .i64 3, .int .i64 bag, .int .i64 0, .int .i64 bx.by_, .int .i64 bx.with_, .int .i64 (1 + ringI n3 999999), .int .i64 0]) [.int .i64 0, .int .i64 0, .int .i64 0, .int .i64 0, .int .i64 0, .int .i64 0, .int .i64 0, .int .i64 0] Try.underlying45 Try.sizeOf52 Try.zeroValue52 rfl rfl (by kernel_rfl) (by kernel_rfl) rfl (fun b218 => ?_)
                          refine oj_nil ?_
                          refine ej_pl (lt_w (by kernel_rfl) (lt_y (y_move rfl) rfl (lt_y (y_loadN Try.isAgg26 Try.sizeOf26 rfl) rfl (lt_nil)))) ?_
                          refine pl_w1 6 (by kernel_rfl) rfl rfl (pl_fire rfl rfl rfl (by kernel_rfl) ?_)
                          refine oj_append  el45 (fun _ => rfl) encCa_one rfl rfl rfl (reads_lit [(⟨z.day, 3, bag, 0, bx.by_, bx.with_, (1 + ringI n3 999999), 0⟩ : CarryV)] (fun _ => rfl) rfl) (by unfold maxLen; simp only [List.length_nil, List.length_append, List.length_cons]; omega) (by simp only [List.length_nil, List.length_append, List.length_cons]; omega) rfl (fun A219 c219 => ?_)
                          refine oj_nil ?_
                          refine ej_pl (lt_y (y_loadN Try.isAgg52 Try.sizeOf52 rfl) rfl (lt_y (y_move rfl) rfl (lt_y (y_loadN Try.isAgg26 Try.sizeOf26 rfl) rfl (lt_nil)))) ?_
                          refine pl_y 7 rfl (y_call Try.call30 rfl (fun w hp => k_Play s ((([] : List CarryV) ++ l) ++ [(⟨z.day, 3, bag, 0, bx.by_, bx.with_, (1 + ringI n3 999999), 0⟩ : CarryV)]) A219 c219 w (hs.mono hp.below) (hp.rdO (fun _ => rfl) (by unfold maxLen; simp only [List.length_append, List.length_cons, List.length_nil]; omega)))) rfl rfl rfl rfl (by kernel_rfl) ?_
                          refine pl_y 8 rfl (y_move rfl) rfl rfl rfl rfl (by kernel_rfl) ?_
                          refine pl_y 9 rfl (y_extract rfl rfl) rfl rfl rfl rfl (by kernel_rfl) ?_
                          refine pl_y 10 rfl (y_extract rfl rfl) rfl rfl rfl rfl (by kernel_rfl) ?_
                          refine pl_y 11 rfl (y_extract rfl rfl) rfl rfl rfl rfl (by kernel_rfl) ?_
                          refine pl_w1 13 (by kernel_rfl) rfl rfl (pl_fire rfl rfl rfl (by kernel_rfl) ?_)
                          refine oj_store (vs := ((playB s.s ((([] : List CarryV) ++ l) ++ [(⟨z.day, 3, bag, 0, bx.by_, bx.with_, (1 + ringI n3 999999), 0⟩ : CarryV)])).flatMap encBa)) (n := 160) (hset := set_all _ _ (by rw [bf_len (playB_len _)]; rfl)) rfl rfl rfl (bf_one _) Try.sizeOf48 (bf_len (playB_len _)) ?_
                          refine oj_nil ?_
                          refine ej_pl (lt_y (y_extract rfl rfl) rfl (lt_y (y_extract rfl rfl) rfl (lt_w (by kernel_rfl) (lt_w (by kernel_rfl) (lt_w (by kernel_rfl) (lt_w (by kernel_rfl) (lt_w (by kernel_rfl) (lt_w (by kernel_rfl) (lt_nil))))))))) ?_
                          refine pl_y 14 rfl (y_assign rfl) rfl rfl rfl rfl (by kernel_rfl) ?_
                          refine pl_y 15 rfl (y_assign rfl) rfl rfl rfl rfl (by kernel_rfl) ?_
                          refine pl_end (by kernel_rfl) ?_
                          refine ej_takes [ownB b19 (cellsB 48 ((playB s.s l).flatMap encBa))] ?_
                          exact ej_ct () trivial ⟨rfl, rfl, rfl, rfl, rfl, rfl, rfl, trivial⟩
                      · refine oj_buildSlice (cs := [.int .i64 z.day, .int .i64 3, .int .i64 bag, .int .i64 0, .int .i64 bx.by_, .int .i64 bx.with_, .int .i64 (1 + ringI n3 999999), .int .i64 0]) [.int .i64 0, .int .i64 0, .int .i64 0, .int .i64 0, .int .i64 0, .int .i64 0, .int .i64 0, .int .i64 0] Try.underlying45 Try.sizeOf52 Try.zeroValue52 rfl rfl (by kernel_rfl) (by kernel_rfl) rfl (fun b218 => ?_)
                        refine oj_nil ?_
                        refine ej_pl (lt_w (by kernel_rfl) (lt_y (y_move rfl) rfl (lt_y (y_loadN Try.isAgg26 Try.sizeOf26 rfl) rfl (lt_nil)))) ?_
                        refine pl_w2 3 12 (by kernel_rfl) rfl rfl (pl_fire rfl rfl rfl (by kernel_rfl) ?_) (pl_fire rfl rfl rfl (by kernel_rfl) ?_)
                        · refine oj_append (xs := ([] : List CarryV)) (c := 0) el45 (fun _ => rfl) encCa_one rfl rfl rfl (reads_sl) (by unfold maxLen; simp only [List.length_nil]; omega) (by simp only [List.length_nil]; omega) rfl (fun A216 c216 => ?_)
                          refine oj_nil ?_
                          refine ej_pl (lt_y (y_loadN Try.isAgg52 Try.sizeOf52 rfl) rfl (lt_w (by kernel_rfl) (lt_y (y_loadN Try.isAgg26 Try.sizeOf26 rfl) rfl (lt_nil)))) ?_
                          refine pl_w2 6 12 (by kernel_rfl) rfl rfl (pl_fire rfl rfl rfl (by kernel_rfl) ?_) (pl_fire rfl rfl rfl (by kernel_rfl) ?_)
                          · refine oj_append  el45 (fun _ => rfl) encCa_one rfl rfl rfl (reads_lit [(⟨z.day, 3, bag, 0, bx.by_, bx.with_, (1 + ringI n3 999999), 0⟩ : CarryV)] (fun _ => rfl) rfl) (by unfold maxLen; simp only [List.length_nil, List.length_append, List.length_cons]; omega) (by simp only [List.length_nil, List.length_append, List.length_cons]; omega) rfl (fun A219 c219 => ?_)
                            refine oj_nil ?_
                            refine ej_pl (lt_y (y_loadN Try.isAgg52 Try.sizeOf52 rfl) rfl (lt_y (y_move rfl) rfl (lt_y (y_loadN Try.isAgg26 Try.sizeOf26 rfl) rfl (lt_nil)))) ?_
                            refine pl_y 7 rfl (y_call Try.call30 rfl (fun w hp => k_Play s ((([] : List CarryV) ++ l) ++ [(⟨z.day, 3, bag, 0, bx.by_, bx.with_, (1 + ringI n3 999999), 0⟩ : CarryV)]) A219 c219 w (hs.mono hp.below) (hp.rdO (fun _ => rfl) (by unfold maxLen; simp only [List.length_append, List.length_cons, List.length_nil]; omega)))) rfl rfl rfl rfl (by kernel_rfl) ?_
                            refine pl_y 8 rfl (y_move rfl) rfl rfl rfl rfl (by kernel_rfl) ?_
                            refine pl_y 9 rfl (y_extract rfl rfl) rfl rfl rfl rfl (by kernel_rfl) ?_
                            refine pl_y 10 rfl (y_extract rfl rfl) rfl rfl rfl rfl (by kernel_rfl) ?_
                            refine pl_y 11 rfl (y_extract rfl rfl) rfl rfl rfl rfl (by kernel_rfl) ?_
                            refine pl_w1 12 (by kernel_rfl) rfl rfl (pl_fire rfl rfl rfl (by kernel_rfl) ?_)
                            refine oj_alloc Try.zeroValue48 rfl rfl (fun b23 => ?_)
                            refine oj_nil ?_
                            refine ej_pl (lt_y (y_extract rfl rfl) rfl (lt_y (y_extract rfl rfl) rfl (lt_y (y_extract rfl rfl) rfl (lt_y (y_move rfl) rfl (lt_y (y_call Try.call30 rfl (fun w hp => k_Play s ((([] : List CarryV) ++ l) ++ [(⟨z.day, 3, bag, 0, bx.by_, bx.with_, (1 + ringI n3 999999), 0⟩ : CarryV)]) A219 c219 w (hs.mono hp.below) (hp.rdO (fun _ => rfl) (by unfold maxLen; simp only [List.length_append, List.length_cons, List.length_nil]; omega)))) rfl (lt_y (y_loadN Try.isAgg52 Try.sizeOf52 rfl) rfl (lt_y (y_move rfl) rfl (lt_y (y_loadN Try.isAgg26 Try.sizeOf26 rfl) rfl (lt_nil))))))))) ?_
                            refine pl_w1 13 (by kernel_rfl) rfl rfl (pl_fire rfl rfl rfl (by kernel_rfl) ?_)
                            refine oj_store (vs := ((playB s.s ((([] : List CarryV) ++ l) ++ [(⟨z.day, 3, bag, 0, bx.by_, bx.with_, (1 + ringI n3 999999), 0⟩ : CarryV)])).flatMap encBa)) (n := 160) (hset := set_all _ _ (by rw [bf_len (playB_len _)]; rfl)) rfl rfl rfl (bf_one _) Try.sizeOf48 (bf_len (playB_len _)) ?_
                            refine oj_nil ?_
                            refine ej_pl (lt_y (y_extract rfl rfl) rfl (lt_y (y_extract rfl rfl) rfl (lt_w (by kernel_rfl) (lt_w (by kernel_rfl) (lt_w (by kernel_rfl) (lt_w (by kernel_rfl) (lt_w (by kernel_rfl) (lt_w (by kernel_rfl) (lt_nil))))))))) ?_
                            refine pl_y 14 rfl (y_assign rfl) rfl rfl rfl rfl (by kernel_rfl) ?_
                            refine pl_y 15 rfl (y_assign rfl) rfl rfl rfl rfl (by kernel_rfl) ?_
                            refine pl_end (by kernel_rfl) ?_
                            refine ej_takes [ownB b19 (cellsB 48 ((playB s.s l).flatMap encBa))] ?_
                            exact ej_ct () trivial ⟨rfl, rfl, rfl, rfl, rfl, rfl, rfl, trivial⟩
                          · refine oj_alloc Try.zeroValue48 rfl rfl (fun b23 => ?_)
                            refine oj_nil ?_
                            refine ej_pl (lt_y (y_loadN Try.isAgg52 Try.sizeOf52 rfl) rfl (lt_y (y_move rfl) rfl (lt_y (y_loadN Try.isAgg26 Try.sizeOf26 rfl) rfl (lt_nil)))) ?_
                            refine pl_w1 6 (by kernel_rfl) rfl rfl (pl_fire rfl rfl rfl (by kernel_rfl) ?_)
                            refine oj_append  el45 (fun _ => rfl) encCa_one rfl rfl rfl (reads_lit [(⟨z.day, 3, bag, 0, bx.by_, bx.with_, (1 + ringI n3 999999), 0⟩ : CarryV)] (fun _ => rfl) rfl) (by unfold maxLen; simp only [List.length_nil, List.length_append, List.length_cons]; omega) (by simp only [List.length_nil, List.length_append, List.length_cons]; omega) rfl (fun A219 c219 => ?_)
                            refine oj_nil ?_
                            refine ej_pl (lt_y (y_loadN Try.isAgg52 Try.sizeOf52 rfl) rfl (lt_y (y_move rfl) rfl (lt_y (y_loadN Try.isAgg26 Try.sizeOf26 rfl) rfl (lt_nil)))) ?_
                            refine pl_y 7 rfl (y_call Try.call30 rfl (fun w hp => k_Play s ((([] : List CarryV) ++ l) ++ [(⟨z.day, 3, bag, 0, bx.by_, bx.with_, (1 + ringI n3 999999), 0⟩ : CarryV)]) A219 c219 w (hs.mono hp.below) (hp.rdO (fun _ => rfl) (by unfold maxLen; simp only [List.length_append, List.length_cons, List.length_nil]; omega)))) rfl rfl rfl rfl (by kernel_rfl) ?_
                            refine pl_y 8 rfl (y_move rfl) rfl rfl rfl rfl (by kernel_rfl) ?_
                            refine pl_y 9 rfl (y_extract rfl rfl) rfl rfl rfl rfl (by kernel_rfl) ?_
                            refine pl_y 10 rfl (y_extract rfl rfl) rfl rfl rfl rfl (by kernel_rfl) ?_
                            refine pl_y 11 rfl (y_extract rfl rfl) rfl rfl rfl rfl (by kernel_rfl) ?_
                            refine pl_w1 13 (by kernel_rfl) rfl rfl (pl_fire rfl rfl rfl (by kernel_rfl) ?_)
                            refine oj_store (vs := ((playB s.s ((([] : List CarryV) ++ l) ++ [(⟨z.day, 3, bag, 0, bx.by_, bx.with_, (1 + ringI n3 999999), 0⟩ : CarryV)])).flatMap encBa)) (n := 160) (hset := set_all _ _ (by rw [bf_len (playB_len _)]; rfl)) rfl rfl rfl (bf_one _) Try.sizeOf48 (bf_len (playB_len _)) ?_
                            refine oj_nil ?_
                            refine ej_pl (lt_y (y_extract rfl rfl) rfl (lt_y (y_extract rfl rfl) rfl (lt_w (by kernel_rfl) (lt_w (by kernel_rfl) (lt_w (by kernel_rfl) (lt_w (by kernel_rfl) (lt_w (by kernel_rfl) (lt_w (by kernel_rfl) (lt_nil))))))))) ?_
                            refine pl_y 14 rfl (y_assign rfl) rfl rfl rfl rfl (by kernel_rfl) ?_
                            refine pl_y 15 rfl (y_assign rfl) rfl rfl rfl rfl (by kernel_rfl) ?_
                            refine pl_end (by kernel_rfl) ?_
                            refine ej_takes [ownB b19 (cellsB 48 ((playB s.s l).flatMap encBa))] ?_
                            exact ej_ct () trivial ⟨rfl, rfl, rfl, rfl, rfl, rfl, rfl, trivial⟩
                        · refine oj_alloc Try.zeroValue48 rfl rfl (fun b23 => ?_)
                          refine oj_nil ?_
                          refine ej_pl (lt_y (y_loadN Try.isAgg52 Try.sizeOf52 rfl) rfl (lt_y (y_move rfl) rfl (lt_y (y_loadN Try.isAgg26 Try.sizeOf26 rfl) rfl (lt_nil)))) ?_
                          refine pl_w1 3 (by kernel_rfl) rfl rfl (pl_fire rfl rfl rfl (by kernel_rfl) ?_)
                          refine oj_append (xs := ([] : List CarryV)) (c := 0) el45 (fun _ => rfl) encCa_one rfl rfl rfl (reads_sl) (by unfold maxLen; simp only [List.length_nil]; omega) (by simp only [List.length_nil]; omega) rfl (fun A216 c216 => ?_)
                          refine oj_nil ?_
                          refine ej_pl (lt_y (y_loadN Try.isAgg52 Try.sizeOf52 rfl) rfl (lt_w (by kernel_rfl) (lt_y (y_loadN Try.isAgg26 Try.sizeOf26 rfl) rfl (lt_nil)))) ?_
                          refine pl_w1 6 (by kernel_rfl) rfl rfl (pl_fire rfl rfl rfl (by kernel_rfl) ?_)
                          refine oj_append  el45 (fun _ => rfl) encCa_one rfl rfl rfl (reads_lit [(⟨z.day, 3, bag, 0, bx.by_, bx.with_, (1 + ringI n3 999999), 0⟩ : CarryV)] (fun _ => rfl) rfl) (by unfold maxLen; simp only [List.length_nil, List.length_append, List.length_cons]; omega) (by simp only [List.length_nil, List.length_append, List.length_cons]; omega) rfl (fun A219 c219 => ?_)
                          refine oj_nil ?_
                          refine ej_pl (lt_y (y_loadN Try.isAgg52 Try.sizeOf52 rfl) rfl (lt_y (y_move rfl) rfl (lt_y (y_loadN Try.isAgg26 Try.sizeOf26 rfl) rfl (lt_nil)))) ?_
                          refine pl_y 7 rfl (y_call Try.call30 rfl (fun w hp => k_Play s ((([] : List CarryV) ++ l) ++ [(⟨z.day, 3, bag, 0, bx.by_, bx.with_, (1 + ringI n3 999999), 0⟩ : CarryV)]) A219 c219 w (hs.mono hp.below) (hp.rdO (fun _ => rfl) (by unfold maxLen; simp only [List.length_append, List.length_cons, List.length_nil]; omega)))) rfl rfl rfl rfl (by kernel_rfl) ?_
                          refine pl_y 8 rfl (y_move rfl) rfl rfl rfl rfl (by kernel_rfl) ?_
                          refine pl_y 9 rfl (y_extract rfl rfl) rfl rfl rfl rfl (by kernel_rfl) ?_
                          refine pl_y 10 rfl (y_extract rfl rfl) rfl rfl rfl rfl (by kernel_rfl) ?_
                          refine pl_y 11 rfl (y_extract rfl rfl) rfl rfl rfl rfl (by kernel_rfl) ?_
                          refine pl_w1 13 (by kernel_rfl) rfl rfl (pl_fire rfl rfl rfl (by kernel_rfl) ?_)
                          refine oj_store (vs := ((playB s.s ((([] : List CarryV) ++ l) ++ [(⟨z.day, 3, bag, 0, bx.by_, bx.with_, (1 + ringI n3 999999), 0⟩ : CarryV)])).flatMap encBa)) (n := 160) (hset := set_all _ _ (by rw [bf_len (playB_len _)]; rfl)) rfl rfl rfl (bf_one _) Try.sizeOf48 (bf_len (playB_len _)) ?_
                          refine oj_nil ?_
                          refine ej_pl (lt_y (y_extract rfl rfl) rfl (lt_y (y_extract rfl rfl) rfl (lt_w (by kernel_rfl) (lt_w (by kernel_rfl) (lt_w (by kernel_rfl) (lt_w (by kernel_rfl) (lt_w (by kernel_rfl) (lt_w (by kernel_rfl) (lt_nil))))))))) ?_
                          refine pl_y 14 rfl (y_assign rfl) rfl rfl rfl rfl (by kernel_rfl) ?_
                          refine pl_y 15 rfl (y_assign rfl) rfl rfl rfl rfl (by kernel_rfl) ?_
                          refine pl_end (by kernel_rfl) ?_
                          refine ej_takes [ownB b19 (cellsB 48 ((playB s.s l).flatMap encBa))] ?_
                          exact ej_ct () trivial ⟨rfl, rfl, rfl, rfl, rfl, rfl, rfl, trivial⟩
                      · refine oj_alloc Try.zeroValue48 rfl rfl (fun b23 => ?_)
                        refine oj_nil ?_
                        refine ej_pl (lt_y (y_loadN Try.isAgg52 Try.sizeOf52 rfl) rfl (lt_y (y_move rfl) rfl (lt_y (y_loadN Try.isAgg26 Try.sizeOf26 rfl) rfl (lt_nil)))) ?_
                        refine pl_w2 3 5 (by kernel_rfl) rfl rfl (pl_fire rfl rfl rfl (by kernel_rfl) ?_) (pl_fire rfl rfl rfl (by kernel_rfl) ?_)
                        · refine oj_append (xs := ([] : List CarryV)) (c := 0) el45 (fun _ => rfl) encCa_one rfl rfl rfl (reads_sl) (by unfold maxLen; simp only [List.length_nil]; omega) (by simp only [List.length_nil]; omega) rfl (fun A216 c216 => ?_)
                          refine oj_nil ?_
                          refine ej_pl (lt_y (y_loadN Try.isAgg52 Try.sizeOf52 rfl) rfl (lt_w (by kernel_rfl) (lt_y (y_loadN Try.isAgg26 Try.sizeOf26 rfl) rfl (lt_nil)))) ?_
                          refine pl_w1 5 (by kernel_rfl) rfl rfl (pl_fire rfl rfl rfl (by kernel_rfl) ?_)
                          refine oj_buildSlice (cs := [.int .i64 z.day, .int .i64 3, .int .i64 bag, .int .i64 0, .int .i64 bx.by_, .int .i64 bx.with_, .int .i64 (1 + ringI n3 999999), .int .i64 0]) [.int .i64 0, .int .i64 0, .int .i64 0, .int .i64 0, .int .i64 0, .int .i64 0, .int .i64 0, .int .i64 0] Try.underlying45 Try.sizeOf52 Try.zeroValue52 rfl rfl (by kernel_rfl) (by kernel_rfl) rfl (fun b218 => ?_)
                          refine oj_nil ?_
                          refine ej_pl (lt_w (by kernel_rfl) (lt_y (y_move rfl) rfl (lt_y (y_loadN Try.isAgg26 Try.sizeOf26 rfl) rfl (lt_nil)))) ?_
                          refine pl_w1 6 (by kernel_rfl) rfl rfl (pl_fire rfl rfl rfl (by kernel_rfl) ?_)
                          refine oj_append  el45 (fun _ => rfl) encCa_one rfl rfl rfl (reads_lit [(⟨z.day, 3, bag, 0, bx.by_, bx.with_, (1 + ringI n3 999999), 0⟩ : CarryV)] (fun _ => rfl) rfl) (by unfold maxLen; simp only [List.length_nil, List.length_append, List.length_cons]; omega) (by simp only [List.length_nil, List.length_append, List.length_cons]; omega) rfl (fun A219 c219 => ?_)
                          refine oj_nil ?_
                          refine ej_pl (lt_y (y_loadN Try.isAgg52 Try.sizeOf52 rfl) rfl (lt_y (y_move rfl) rfl (lt_y (y_loadN Try.isAgg26 Try.sizeOf26 rfl) rfl (lt_nil)))) ?_
                          refine pl_y 7 rfl (y_call Try.call30 rfl (fun w hp => k_Play s ((([] : List CarryV) ++ l) ++ [(⟨z.day, 3, bag, 0, bx.by_, bx.with_, (1 + ringI n3 999999), 0⟩ : CarryV)]) A219 c219 w (hs.mono hp.below) (hp.rdO (fun _ => rfl) (by unfold maxLen; simp only [List.length_append, List.length_cons, List.length_nil]; omega)))) rfl rfl rfl rfl (by kernel_rfl) ?_
                          refine pl_y 8 rfl (y_move rfl) rfl rfl rfl rfl (by kernel_rfl) ?_
                          refine pl_y 9 rfl (y_extract rfl rfl) rfl rfl rfl rfl (by kernel_rfl) ?_
                          refine pl_y 10 rfl (y_extract rfl rfl) rfl rfl rfl rfl (by kernel_rfl) ?_
                          refine pl_y 11 rfl (y_extract rfl rfl) rfl rfl rfl rfl (by kernel_rfl) ?_
                          refine pl_w1 13 (by kernel_rfl) rfl rfl (pl_fire rfl rfl rfl (by kernel_rfl) ?_)
                          refine oj_store (vs := ((playB s.s ((([] : List CarryV) ++ l) ++ [(⟨z.day, 3, bag, 0, bx.by_, bx.with_, (1 + ringI n3 999999), 0⟩ : CarryV)])).flatMap encBa)) (n := 160) (hset := set_all _ _ (by rw [bf_len (playB_len _)]; rfl)) rfl rfl rfl (bf_one _) Try.sizeOf48 (bf_len (playB_len _)) ?_
                          refine oj_nil ?_
                          refine ej_pl (lt_y (y_extract rfl rfl) rfl (lt_y (y_extract rfl rfl) rfl (lt_w (by kernel_rfl) (lt_w (by kernel_rfl) (lt_w (by kernel_rfl) (lt_w (by kernel_rfl) (lt_w (by kernel_rfl) (lt_w (by kernel_rfl) (lt_nil))))))))) ?_
                          refine pl_y 14 rfl (y_assign rfl) rfl rfl rfl rfl (by kernel_rfl) ?_
                          refine pl_y 15 rfl (y_assign rfl) rfl rfl rfl rfl (by kernel_rfl) ?_
                          refine pl_end (by kernel_rfl) ?_
                          refine ej_takes [ownB b19 (cellsB 48 ((playB s.s l).flatMap encBa))] ?_
                          exact ej_ct () trivial ⟨rfl, rfl, rfl, rfl, rfl, rfl, rfl, trivial⟩
                        · refine oj_buildSlice (cs := [.int .i64 z.day, .int .i64 3, .int .i64 bag, .int .i64 0, .int .i64 bx.by_, .int .i64 bx.with_, .int .i64 (1 + ringI n3 999999), .int .i64 0]) [.int .i64 0, .int .i64 0, .int .i64 0, .int .i64 0, .int .i64 0, .int .i64 0, .int .i64 0, .int .i64 0] Try.underlying45 Try.sizeOf52 Try.zeroValue52 rfl rfl (by kernel_rfl) (by kernel_rfl) rfl (fun b218 => ?_)
                          refine oj_nil ?_
                          refine ej_pl (lt_w (by kernel_rfl) (lt_y (y_move rfl) rfl (lt_y (y_loadN Try.isAgg26 Try.sizeOf26 rfl) rfl (lt_nil)))) ?_
                          refine pl_w1 3 (by kernel_rfl) rfl rfl (pl_fire rfl rfl rfl (by kernel_rfl) ?_)
                          refine oj_append (xs := ([] : List CarryV)) (c := 0) el45 (fun _ => rfl) encCa_one rfl rfl rfl (reads_sl) (by unfold maxLen; simp only [List.length_nil]; omega) (by simp only [List.length_nil]; omega) rfl (fun A216 c216 => ?_)
                          refine oj_nil ?_
                          refine ej_pl (lt_y (y_loadN Try.isAgg52 Try.sizeOf52 rfl) rfl (lt_w (by kernel_rfl) (lt_y (y_loadN Try.isAgg26 Try.sizeOf26 rfl) rfl (lt_nil)))) ?_
                          refine pl_w1 6 (by kernel_rfl) rfl rfl (pl_fire rfl rfl rfl (by kernel_rfl) ?_)
                          refine oj_append  el45 (fun _ => rfl) encCa_one rfl rfl rfl (reads_lit [(⟨z.day, 3, bag, 0, bx.by_, bx.with_, (1 + ringI n3 999999), 0⟩ : CarryV)] (fun _ => rfl) rfl) (by unfold maxLen; simp only [List.length_nil, List.length_append, List.length_cons]; omega) (by simp only [List.length_nil, List.length_append, List.length_cons]; omega) rfl (fun A219 c219 => ?_)
                          refine oj_nil ?_
                          refine ej_pl (lt_y (y_loadN Try.isAgg52 Try.sizeOf52 rfl) rfl (lt_y (y_move rfl) rfl (lt_y (y_loadN Try.isAgg26 Try.sizeOf26 rfl) rfl (lt_nil)))) ?_
                          refine pl_y 7 rfl (y_call Try.call30 rfl (fun w hp => k_Play s ((([] : List CarryV) ++ l) ++ [(⟨z.day, 3, bag, 0, bx.by_, bx.with_, (1 + ringI n3 999999), 0⟩ : CarryV)]) A219 c219 w (hs.mono hp.below) (hp.rdO (fun _ => rfl) (by unfold maxLen; simp only [List.length_append, List.length_cons, List.length_nil]; omega)))) rfl rfl rfl rfl (by kernel_rfl) ?_
                          refine pl_y 8 rfl (y_move rfl) rfl rfl rfl rfl (by kernel_rfl) ?_
                          refine pl_y 9 rfl (y_extract rfl rfl) rfl rfl rfl rfl (by kernel_rfl) ?_
                          refine pl_y 10 rfl (y_extract rfl rfl) rfl rfl rfl rfl (by kernel_rfl) ?_
                          refine pl_y 11 rfl (y_extract rfl rfl) rfl rfl rfl rfl (by kernel_rfl) ?_
                          refine pl_w1 13 (by kernel_rfl) rfl rfl (pl_fire rfl rfl rfl (by kernel_rfl) ?_)
                          refine oj_store (vs := ((playB s.s ((([] : List CarryV) ++ l) ++ [(⟨z.day, 3, bag, 0, bx.by_, bx.with_, (1 + ringI n3 999999), 0⟩ : CarryV)])).flatMap encBa)) (n := 160) (hset := set_all _ _ (by rw [bf_len (playB_len _)]; rfl)) rfl rfl rfl (bf_one _) Try.sizeOf48 (bf_len (playB_len _)) ?_
                          refine oj_nil ?_
                          refine ej_pl (lt_y (y_extract rfl rfl) rfl (lt_y (y_extract rfl rfl) rfl (lt_w (by kernel_rfl) (lt_w (by kernel_rfl) (lt_w (by kernel_rfl) (lt_w (by kernel_rfl) (lt_w (by kernel_rfl) (lt_w (by kernel_rfl) (lt_nil))))))))) ?_
                          refine pl_y 14 rfl (y_assign rfl) rfl rfl rfl rfl (by kernel_rfl) ?_
                          refine pl_y 15 rfl (y_assign rfl) rfl rfl rfl rfl (by kernel_rfl) ?_
                          refine pl_end (by kernel_rfl) ?_
                          refine ej_takes [ownB b19 (cellsB 48 ((playB s.s l).flatMap encBa))] ?_
                          exact ej_ct () trivial ⟨rfl, rfl, rfl, rfl, rfl, rfl, rfl, trivial⟩
                    · refine oj_buildSlice (cs := [.int .i64 z.day, .int .i64 3, .int .i64 bag, .int .i64 0, .int .i64 bx.by_, .int .i64 bx.with_, .int .i64 (1 + ringI n3 999999), .int .i64 0]) [.int .i64 0, .int .i64 0, .int .i64 0, .int .i64 0, .int .i64 0, .int .i64 0, .int .i64 0, .int .i64 0] Try.underlying45 Try.sizeOf52 Try.zeroValue52 rfl rfl (by kernel_rfl) (by kernel_rfl) rfl (fun b218 => ?_)
                      refine oj_nil ?_
                      refine ej_pl (lt_w (by kernel_rfl) (lt_y (y_move rfl) rfl (lt_y (y_loadN Try.isAgg26 Try.sizeOf26 rfl) rfl (lt_nil)))) ?_
                      refine pl_w2 1 12 (by kernel_rfl) rfl rfl (pl_fire rfl rfl rfl (by kernel_rfl) ?_) (pl_fire rfl rfl rfl (by kernel_rfl) ?_)
                      · refine oj_buildSlice (cs := []) [] Try.underlying45 Try.sizeOf52 Try.zeroValue52 rfl rfl (by kernel_rfl) (by kernel_rfl) rfl (fun b214 => ?_)
                        refine oj_litOw (b := b214) (e := 52) (c := 0) (sz := 8) (enc := encCa) [] rfl rfl rfl (by unfold maxLen; simp) ?_
                        refine oj_nil ?_
                        refine ej_pl (lt_y (y_loadN Try.isAgg52 Try.sizeOf52 rfl) rfl (lt_y (y_move rfl) rfl (lt_y (y_loadN Try.isAgg26 Try.sizeOf26 rfl) rfl (lt_nil)))) ?_
                        refine pl_w2 3 12 (by kernel_rfl) rfl rfl (pl_fire rfl rfl rfl (by kernel_rfl) ?_) (pl_fire rfl rfl rfl (by kernel_rfl) ?_)
                        · refine oj_append (xs := ([] : List CarryV)) (c := 0) el45 (fun _ => rfl) encCa_one rfl rfl rfl (reads_sl) (by unfold maxLen; simp only [List.length_nil]; omega) (by simp only [List.length_nil]; omega) rfl (fun A216 c216 => ?_)
                          refine oj_nil ?_
                          refine ej_pl (lt_y (y_loadN Try.isAgg52 Try.sizeOf52 rfl) rfl (lt_w (by kernel_rfl) (lt_y (y_loadN Try.isAgg26 Try.sizeOf26 rfl) rfl (lt_nil)))) ?_
                          refine pl_w2 6 12 (by kernel_rfl) rfl rfl (pl_fire rfl rfl rfl (by kernel_rfl) ?_) (pl_fire rfl rfl rfl (by kernel_rfl) ?_)
                          · refine oj_append  el45 (fun _ => rfl) encCa_one rfl rfl rfl (reads_lit [(⟨z.day, 3, bag, 0, bx.by_, bx.with_, (1 + ringI n3 999999), 0⟩ : CarryV)] (fun _ => rfl) rfl) (by unfold maxLen; simp only [List.length_nil, List.length_append, List.length_cons]; omega) (by simp only [List.length_nil, List.length_append, List.length_cons]; omega) rfl (fun A219 c219 => ?_)
                            refine oj_nil ?_
                            refine ej_pl (lt_y (y_loadN Try.isAgg52 Try.sizeOf52 rfl) rfl (lt_y (y_move rfl) rfl (lt_y (y_loadN Try.isAgg26 Try.sizeOf26 rfl) rfl (lt_nil)))) ?_
                            refine pl_y 7 rfl (y_call Try.call30 rfl (fun w hp => k_Play s ((([] : List CarryV) ++ l) ++ [(⟨z.day, 3, bag, 0, bx.by_, bx.with_, (1 + ringI n3 999999), 0⟩ : CarryV)]) A219 c219 w (hs.mono hp.below) (hp.rdO (fun _ => rfl) (by unfold maxLen; simp only [List.length_append, List.length_cons, List.length_nil]; omega)))) rfl rfl rfl rfl (by kernel_rfl) ?_
                            refine pl_y 8 rfl (y_move rfl) rfl rfl rfl rfl (by kernel_rfl) ?_
                            refine pl_y 9 rfl (y_extract rfl rfl) rfl rfl rfl rfl (by kernel_rfl) ?_
                            refine pl_y 10 rfl (y_extract rfl rfl) rfl rfl rfl rfl (by kernel_rfl) ?_
                            refine pl_y 11 rfl (y_extract rfl rfl) rfl rfl rfl rfl (by kernel_rfl) ?_
                            refine pl_w1 12 (by kernel_rfl) rfl rfl (pl_fire rfl rfl rfl (by kernel_rfl) ?_)
                            refine oj_alloc Try.zeroValue48 rfl rfl (fun b23 => ?_)
                            refine oj_nil ?_
                            refine ej_pl (lt_y (y_extract rfl rfl) rfl (lt_y (y_extract rfl rfl) rfl (lt_y (y_extract rfl rfl) rfl (lt_y (y_move rfl) rfl (lt_y (y_call Try.call30 rfl (fun w hp => k_Play s ((([] : List CarryV) ++ l) ++ [(⟨z.day, 3, bag, 0, bx.by_, bx.with_, (1 + ringI n3 999999), 0⟩ : CarryV)]) A219 c219 w (hs.mono hp.below) (hp.rdO (fun _ => rfl) (by unfold maxLen; simp only [List.length_append, List.length_cons, List.length_nil]; omega)))) rfl (lt_y (y_loadN Try.isAgg52 Try.sizeOf52 rfl) rfl (lt_y (y_move rfl) rfl (lt_y (y_loadN Try.isAgg26 Try.sizeOf26 rfl) rfl (lt_nil))))))))) ?_
                            refine pl_w1 13 (by kernel_rfl) rfl rfl (pl_fire rfl rfl rfl (by kernel_rfl) ?_)
                            refine oj_store (vs := ((playB s.s ((([] : List CarryV) ++ l) ++ [(⟨z.day, 3, bag, 0, bx.by_, bx.with_, (1 + ringI n3 999999), 0⟩ : CarryV)])).flatMap encBa)) (n := 160) (hset := set_all _ _ (by rw [bf_len (playB_len _)]; rfl)) rfl rfl rfl (bf_one _) Try.sizeOf48 (bf_len (playB_len _)) ?_
                            refine oj_nil ?_
                            refine ej_pl (lt_y (y_extract rfl rfl) rfl (lt_y (y_extract rfl rfl) rfl (lt_w (by kernel_rfl) (lt_w (by kernel_rfl) (lt_w (by kernel_rfl) (lt_w (by kernel_rfl) (lt_w (by kernel_rfl) (lt_w (by kernel_rfl) (lt_nil))))))))) ?_
                            refine pl_y 14 rfl (y_assign rfl) rfl rfl rfl rfl (by kernel_rfl) ?_
                            refine pl_y 15 rfl (y_assign rfl) rfl rfl rfl rfl (by kernel_rfl) ?_
                            refine pl_end (by kernel_rfl) ?_
                            refine ej_takes [ownB b19 (cellsB 48 ((playB s.s l).flatMap encBa))] ?_
                            exact ej_ct () trivial ⟨rfl, rfl, rfl, rfl, rfl, rfl, rfl, trivial⟩
                          · refine oj_alloc Try.zeroValue48 rfl rfl (fun b23 => ?_)
                            refine oj_nil ?_
                            refine ej_pl (lt_y (y_loadN Try.isAgg52 Try.sizeOf52 rfl) rfl (lt_y (y_move rfl) rfl (lt_y (y_loadN Try.isAgg26 Try.sizeOf26 rfl) rfl (lt_nil)))) ?_
                            refine pl_w1 6 (by kernel_rfl) rfl rfl (pl_fire rfl rfl rfl (by kernel_rfl) ?_)
                            refine oj_append  el45 (fun _ => rfl) encCa_one rfl rfl rfl (reads_lit [(⟨z.day, 3, bag, 0, bx.by_, bx.with_, (1 + ringI n3 999999), 0⟩ : CarryV)] (fun _ => rfl) rfl) (by unfold maxLen; simp only [List.length_nil, List.length_append, List.length_cons]; omega) (by simp only [List.length_nil, List.length_append, List.length_cons]; omega) rfl (fun A219 c219 => ?_)
                            refine oj_nil ?_
                            refine ej_pl (lt_y (y_loadN Try.isAgg52 Try.sizeOf52 rfl) rfl (lt_y (y_move rfl) rfl (lt_y (y_loadN Try.isAgg26 Try.sizeOf26 rfl) rfl (lt_nil)))) ?_
                            refine pl_y 7 rfl (y_call Try.call30 rfl (fun w hp => k_Play s ((([] : List CarryV) ++ l) ++ [(⟨z.day, 3, bag, 0, bx.by_, bx.with_, (1 + ringI n3 999999), 0⟩ : CarryV)]) A219 c219 w (hs.mono hp.below) (hp.rdO (fun _ => rfl) (by unfold maxLen; simp only [List.length_append, List.length_cons, List.length_nil]; omega)))) rfl rfl rfl rfl (by kernel_rfl) ?_
                            refine pl_y 8 rfl (y_move rfl) rfl rfl rfl rfl (by kernel_rfl) ?_
                            refine pl_y 9 rfl (y_extract rfl rfl) rfl rfl rfl rfl (by kernel_rfl) ?_
                            refine pl_y 10 rfl (y_extract rfl rfl) rfl rfl rfl rfl (by kernel_rfl) ?_
                            refine pl_y 11 rfl (y_extract rfl rfl) rfl rfl rfl rfl (by kernel_rfl) ?_
                            refine pl_w1 13 (by kernel_rfl) rfl rfl (pl_fire rfl rfl rfl (by kernel_rfl) ?_)
                            refine oj_store (vs := ((playB s.s ((([] : List CarryV) ++ l) ++ [(⟨z.day, 3, bag, 0, bx.by_, bx.with_, (1 + ringI n3 999999), 0⟩ : CarryV)])).flatMap encBa)) (n := 160) (hset := set_all _ _ (by rw [bf_len (playB_len _)]; rfl)) rfl rfl rfl (bf_one _) Try.sizeOf48 (bf_len (playB_len _)) ?_
                            refine oj_nil ?_
                            refine ej_pl (lt_y (y_extract rfl rfl) rfl (lt_y (y_extract rfl rfl) rfl (lt_w (by kernel_rfl) (lt_w (by kernel_rfl) (lt_w (by kernel_rfl) (lt_w (by kernel_rfl) (lt_w (by kernel_rfl) (lt_w (by kernel_rfl) (lt_nil))))))))) ?_
                            refine pl_y 14 rfl (y_assign rfl) rfl rfl rfl rfl (by kernel_rfl) ?_
                            refine pl_y 15 rfl (y_assign rfl) rfl rfl rfl rfl (by kernel_rfl) ?_
                            refine pl_end (by kernel_rfl) ?_
                            refine ej_takes [ownB b19 (cellsB 48 ((playB s.s l).flatMap encBa))] ?_
                            exact ej_ct () trivial ⟨rfl, rfl, rfl, rfl, rfl, rfl, rfl, trivial⟩
                        · refine oj_alloc Try.zeroValue48 rfl rfl (fun b23 => ?_)
                          refine oj_nil ?_
                          refine ej_pl (lt_y (y_loadN Try.isAgg52 Try.sizeOf52 rfl) rfl (lt_y (y_move rfl) rfl (lt_y (y_loadN Try.isAgg26 Try.sizeOf26 rfl) rfl (lt_nil)))) ?_
                          refine pl_w1 3 (by kernel_rfl) rfl rfl (pl_fire rfl rfl rfl (by kernel_rfl) ?_)
                          refine oj_append (xs := ([] : List CarryV)) (c := 0) el45 (fun _ => rfl) encCa_one rfl rfl rfl (reads_sl) (by unfold maxLen; simp only [List.length_nil]; omega) (by simp only [List.length_nil]; omega) rfl (fun A216 c216 => ?_)
                          refine oj_nil ?_
                          refine ej_pl (lt_y (y_loadN Try.isAgg52 Try.sizeOf52 rfl) rfl (lt_w (by kernel_rfl) (lt_y (y_loadN Try.isAgg26 Try.sizeOf26 rfl) rfl (lt_nil)))) ?_
                          refine pl_w1 6 (by kernel_rfl) rfl rfl (pl_fire rfl rfl rfl (by kernel_rfl) ?_)
                          refine oj_append  el45 (fun _ => rfl) encCa_one rfl rfl rfl (reads_lit [(⟨z.day, 3, bag, 0, bx.by_, bx.with_, (1 + ringI n3 999999), 0⟩ : CarryV)] (fun _ => rfl) rfl) (by unfold maxLen; simp only [List.length_nil, List.length_append, List.length_cons]; omega) (by simp only [List.length_nil, List.length_append, List.length_cons]; omega) rfl (fun A219 c219 => ?_)
                          refine oj_nil ?_
                          refine ej_pl (lt_y (y_loadN Try.isAgg52 Try.sizeOf52 rfl) rfl (lt_y (y_move rfl) rfl (lt_y (y_loadN Try.isAgg26 Try.sizeOf26 rfl) rfl (lt_nil)))) ?_
                          refine pl_y 7 rfl (y_call Try.call30 rfl (fun w hp => k_Play s ((([] : List CarryV) ++ l) ++ [(⟨z.day, 3, bag, 0, bx.by_, bx.with_, (1 + ringI n3 999999), 0⟩ : CarryV)]) A219 c219 w (hs.mono hp.below) (hp.rdO (fun _ => rfl) (by unfold maxLen; simp only [List.length_append, List.length_cons, List.length_nil]; omega)))) rfl rfl rfl rfl (by kernel_rfl) ?_
                          refine pl_y 8 rfl (y_move rfl) rfl rfl rfl rfl (by kernel_rfl) ?_
                          refine pl_y 9 rfl (y_extract rfl rfl) rfl rfl rfl rfl (by kernel_rfl) ?_
                          refine pl_y 10 rfl (y_extract rfl rfl) rfl rfl rfl rfl (by kernel_rfl) ?_
                          refine pl_y 11 rfl (y_extract rfl rfl) rfl rfl rfl rfl (by kernel_rfl) ?_
                          refine pl_w1 13 (by kernel_rfl) rfl rfl (pl_fire rfl rfl rfl (by kernel_rfl) ?_)
                          refine oj_store (vs := ((playB s.s ((([] : List CarryV) ++ l) ++ [(⟨z.day, 3, bag, 0, bx.by_, bx.with_, (1 + ringI n3 999999), 0⟩ : CarryV)])).flatMap encBa)) (n := 160) (hset := set_all _ _ (by rw [bf_len (playB_len _)]; rfl)) rfl rfl rfl (bf_one _) Try.sizeOf48 (bf_len (playB_len _)) ?_
                          refine oj_nil ?_
                          refine ej_pl (lt_y (y_extract rfl rfl) rfl (lt_y (y_extract rfl rfl) rfl (lt_w (by kernel_rfl) (lt_w (by kernel_rfl) (lt_w (by kernel_rfl) (lt_w (by kernel_rfl) (lt_w (by kernel_rfl) (lt_w (by kernel_rfl) (lt_nil))))))))) ?_
                          refine pl_y 14 rfl (y_assign rfl) rfl rfl rfl rfl (by kernel_rfl) ?_
                          refine pl_y 15 rfl (y_assign rfl) rfl rfl rfl rfl (by kernel_rfl) ?_
                          refine pl_end (by kernel_rfl) ?_
                          refine ej_takes [ownB b19 (cellsB 48 ((playB s.s l).flatMap encBa))] ?_
                          exact ej_ct () trivial ⟨rfl, rfl, rfl, rfl, rfl, rfl, rfl, trivial⟩
                      · refine oj_alloc Try.zeroValue48 rfl rfl (fun b23 => ?_)
                        refine oj_nil ?_
                        refine ej_pl (lt_y (y_loadN Try.isAgg52 Try.sizeOf52 rfl) rfl (lt_y (y_move rfl) rfl (lt_y (y_loadN Try.isAgg26 Try.sizeOf26 rfl) rfl (lt_nil)))) ?_
                        refine pl_w1 1 (by kernel_rfl) rfl rfl (pl_fire rfl rfl rfl (by kernel_rfl) ?_)
                        refine oj_buildSlice (cs := []) [] Try.underlying45 Try.sizeOf52 Try.zeroValue52 rfl rfl (by kernel_rfl) (by kernel_rfl) rfl (fun b214 => ?_)
                        refine oj_litOw (b := b214) (e := 52) (c := 0) (sz := 8) (enc := encCa) [] rfl rfl rfl (by unfold maxLen; simp) ?_
                        refine oj_nil ?_
                        refine ej_pl (lt_y (y_loadN Try.isAgg52 Try.sizeOf52 rfl) rfl (lt_y (y_move rfl) rfl (lt_y (y_loadN Try.isAgg26 Try.sizeOf26 rfl) rfl (lt_nil)))) ?_
                        refine pl_w1 3 (by kernel_rfl) rfl rfl (pl_fire rfl rfl rfl (by kernel_rfl) ?_)
                        refine oj_append (xs := ([] : List CarryV)) (c := 0) el45 (fun _ => rfl) encCa_one rfl rfl rfl (reads_sl) (by unfold maxLen; simp only [List.length_nil]; omega) (by simp only [List.length_nil]; omega) rfl (fun A216 c216 => ?_)
                        refine oj_nil ?_
                        refine ej_pl (lt_y (y_loadN Try.isAgg52 Try.sizeOf52 rfl) rfl (lt_w (by kernel_rfl) (lt_y (y_loadN Try.isAgg26 Try.sizeOf26 rfl) rfl (lt_nil)))) ?_
                        refine pl_w1 6 (by kernel_rfl) rfl rfl (pl_fire rfl rfl rfl (by kernel_rfl) ?_)
                        refine oj_append  el45 (fun _ => rfl) encCa_one rfl rfl rfl (reads_lit [(⟨z.day, 3, bag, 0, bx.by_, bx.with_, (1 + ringI n3 999999), 0⟩ : CarryV)] (fun _ => rfl) rfl) (by unfold maxLen; simp only [List.length_nil, List.length_append, List.length_cons]; omega) (by simp only [List.length_nil, List.length_append, List.length_cons]; omega) rfl (fun A219 c219 => ?_)
                        refine oj_nil ?_
                        refine ej_pl (lt_y (y_loadN Try.isAgg52 Try.sizeOf52 rfl) rfl (lt_y (y_move rfl) rfl (lt_y (y_loadN Try.isAgg26 Try.sizeOf26 rfl) rfl (lt_nil)))) ?_
                        refine pl_y 7 rfl (y_call Try.call30 rfl (fun w hp => k_Play s ((([] : List CarryV) ++ l) ++ [(⟨z.day, 3, bag, 0, bx.by_, bx.with_, (1 + ringI n3 999999), 0⟩ : CarryV)]) A219 c219 w (hs.mono hp.below) (hp.rdO (fun _ => rfl) (by unfold maxLen; simp only [List.length_append, List.length_cons, List.length_nil]; omega)))) rfl rfl rfl rfl (by kernel_rfl) ?_
                        refine pl_y 8 rfl (y_move rfl) rfl rfl rfl rfl (by kernel_rfl) ?_
                        refine pl_y 9 rfl (y_extract rfl rfl) rfl rfl rfl rfl (by kernel_rfl) ?_
                        refine pl_y 10 rfl (y_extract rfl rfl) rfl rfl rfl rfl (by kernel_rfl) ?_
                        refine pl_y 11 rfl (y_extract rfl rfl) rfl rfl rfl rfl (by kernel_rfl) ?_
                        refine pl_w1 13 (by kernel_rfl) rfl rfl (pl_fire rfl rfl rfl (by kernel_rfl) ?_)
                        refine oj_store (vs := ((playB s.s ((([] : List CarryV) ++ l) ++ [(⟨z.day, 3, bag, 0, bx.by_, bx.with_, (1 + ringI n3 999999), 0⟩ : CarryV)])).flatMap encBa)) (n := 160) (hset := set_all _ _ (by rw [bf_len (playB_len _)]; rfl)) rfl rfl rfl (bf_one _) Try.sizeOf48 (bf_len (playB_len _)) ?_
                        refine oj_nil ?_
                        refine ej_pl (lt_y (y_extract rfl rfl) rfl (lt_y (y_extract rfl rfl) rfl (lt_w (by kernel_rfl) (lt_w (by kernel_rfl) (lt_w (by kernel_rfl) (lt_w (by kernel_rfl) (lt_w (by kernel_rfl) (lt_w (by kernel_rfl) (lt_nil))))))))) ?_
                        refine pl_y 14 rfl (y_assign rfl) rfl rfl rfl rfl (by kernel_rfl) ?_
                        refine pl_y 15 rfl (y_assign rfl) rfl rfl rfl rfl (by kernel_rfl) ?_
                        refine pl_end (by kernel_rfl) ?_
                        refine ej_takes [ownB b19 (cellsB 48 ((playB s.s l).flatMap encBa))] ?_
                        exact ej_ct () trivial ⟨rfl, rfl, rfl, rfl, rfl, rfl, rfl, trivial⟩
                    · refine oj_alloc Try.zeroValue48 rfl rfl (fun b23 => ?_)
                      refine oj_nil ?_
                      refine ej_pl (lt_y (y_loadN Try.isAgg52 Try.sizeOf52 rfl) rfl (lt_y (y_move rfl) rfl (lt_y (y_loadN Try.isAgg26 Try.sizeOf26 rfl) rfl (lt_nil)))) ?_
                      refine pl_w2 1 5 (by kernel_rfl) rfl rfl (pl_fire rfl rfl rfl (by kernel_rfl) ?_) (pl_fire rfl rfl rfl (by kernel_rfl) ?_)
                      · refine oj_buildSlice (cs := []) [] Try.underlying45 Try.sizeOf52 Try.zeroValue52 rfl rfl (by kernel_rfl) (by kernel_rfl) rfl (fun b214 => ?_)
                        refine oj_litOw (b := b214) (e := 52) (c := 0) (sz := 8) (enc := encCa) [] rfl rfl rfl (by unfold maxLen; simp) ?_
                        refine oj_nil ?_
                        refine ej_pl (lt_y (y_loadN Try.isAgg52 Try.sizeOf52 rfl) rfl (lt_y (y_move rfl) rfl (lt_y (y_loadN Try.isAgg26 Try.sizeOf26 rfl) rfl (lt_nil)))) ?_
                        refine pl_w2 3 5 (by kernel_rfl) rfl rfl (pl_fire rfl rfl rfl (by kernel_rfl) ?_) (pl_fire rfl rfl rfl (by kernel_rfl) ?_)
                        · refine oj_append (xs := ([] : List CarryV)) (c := 0) el45 (fun _ => rfl) encCa_one rfl rfl rfl (reads_sl) (by unfold maxLen; simp only [List.length_nil]; omega) (by simp only [List.length_nil]; omega) rfl (fun A216 c216 => ?_)
                          refine oj_nil ?_
                          refine ej_pl (lt_y (y_loadN Try.isAgg52 Try.sizeOf52 rfl) rfl (lt_w (by kernel_rfl) (lt_y (y_loadN Try.isAgg26 Try.sizeOf26 rfl) rfl (lt_nil)))) ?_
                          refine pl_w1 5 (by kernel_rfl) rfl rfl (pl_fire rfl rfl rfl (by kernel_rfl) ?_)
                          refine oj_buildSlice (cs := [.int .i64 z.day, .int .i64 3, .int .i64 bag, .int .i64 0, .int .i64 bx.by_, .int .i64 bx.with_, .int .i64 (1 + ringI n3 999999), .int .i64 0]) [.int .i64 0, .int .i64 0, .int .i64 0, .int .i64 0, .int .i64 0, .int .i64 0, .int .i64 0, .int .i64 0] Try.underlying45 Try.sizeOf52 Try.zeroValue52 rfl rfl (by kernel_rfl) (by kernel_rfl) rfl (fun b218 => ?_)
                          refine oj_nil ?_
                          refine ej_pl (lt_w (by kernel_rfl) (lt_y (y_move rfl) rfl (lt_y (y_loadN Try.isAgg26 Try.sizeOf26 rfl) rfl (lt_nil)))) ?_
                          refine pl_w1 6 (by kernel_rfl) rfl rfl (pl_fire rfl rfl rfl (by kernel_rfl) ?_)
                          refine oj_append  el45 (fun _ => rfl) encCa_one rfl rfl rfl (reads_lit [(⟨z.day, 3, bag, 0, bx.by_, bx.with_, (1 + ringI n3 999999), 0⟩ : CarryV)] (fun _ => rfl) rfl) (by unfold maxLen; simp only [List.length_nil, List.length_append, List.length_cons]; omega) (by simp only [List.length_nil, List.length_append, List.length_cons]; omega) rfl (fun A219 c219 => ?_)
                          refine oj_nil ?_
                          refine ej_pl (lt_y (y_loadN Try.isAgg52 Try.sizeOf52 rfl) rfl (lt_y (y_move rfl) rfl (lt_y (y_loadN Try.isAgg26 Try.sizeOf26 rfl) rfl (lt_nil)))) ?_
                          refine pl_y 7 rfl (y_call Try.call30 rfl (fun w hp => k_Play s ((([] : List CarryV) ++ l) ++ [(⟨z.day, 3, bag, 0, bx.by_, bx.with_, (1 + ringI n3 999999), 0⟩ : CarryV)]) A219 c219 w (hs.mono hp.below) (hp.rdO (fun _ => rfl) (by unfold maxLen; simp only [List.length_append, List.length_cons, List.length_nil]; omega)))) rfl rfl rfl rfl (by kernel_rfl) ?_
                          refine pl_y 8 rfl (y_move rfl) rfl rfl rfl rfl (by kernel_rfl) ?_
                          refine pl_y 9 rfl (y_extract rfl rfl) rfl rfl rfl rfl (by kernel_rfl) ?_
                          refine pl_y 10 rfl (y_extract rfl rfl) rfl rfl rfl rfl (by kernel_rfl) ?_
                          refine pl_y 11 rfl (y_extract rfl rfl) rfl rfl rfl rfl (by kernel_rfl) ?_
                          refine pl_w1 13 (by kernel_rfl) rfl rfl (pl_fire rfl rfl rfl (by kernel_rfl) ?_)
                          refine oj_store (vs := ((playB s.s ((([] : List CarryV) ++ l) ++ [(⟨z.day, 3, bag, 0, bx.by_, bx.with_, (1 + ringI n3 999999), 0⟩ : CarryV)])).flatMap encBa)) (n := 160) (hset := set_all _ _ (by rw [bf_len (playB_len _)]; rfl)) rfl rfl rfl (bf_one _) Try.sizeOf48 (bf_len (playB_len _)) ?_
                          refine oj_nil ?_
                          refine ej_pl (lt_y (y_extract rfl rfl) rfl (lt_y (y_extract rfl rfl) rfl (lt_w (by kernel_rfl) (lt_w (by kernel_rfl) (lt_w (by kernel_rfl) (lt_w (by kernel_rfl) (lt_w (by kernel_rfl) (lt_w (by kernel_rfl) (lt_nil))))))))) ?_
                          refine pl_y 14 rfl (y_assign rfl) rfl rfl rfl rfl (by kernel_rfl) ?_
                          refine pl_y 15 rfl (y_assign rfl) rfl rfl rfl rfl (by kernel_rfl) ?_
                          refine pl_end (by kernel_rfl) ?_
                          refine ej_takes [ownB b19 (cellsB 48 ((playB s.s l).flatMap encBa))] ?_
                          exact ej_ct () trivial ⟨rfl, rfl, rfl, rfl, rfl, rfl, rfl, trivial⟩
                        · refine oj_buildSlice (cs := [.int .i64 z.day, .int .i64 3, .int .i64 bag, .int .i64 0, .int .i64 bx.by_, .int .i64 bx.with_, .int .i64 (1 + ringI n3 999999), .int .i64 0]) [.int .i64 0, .int .i64 0, .int .i64 0, .int .i64 0, .int .i64 0, .int .i64 0, .int .i64 0, .int .i64 0] Try.underlying45 Try.sizeOf52 Try.zeroValue52 rfl rfl (by kernel_rfl) (by kernel_rfl) rfl (fun b218 => ?_)
                          refine oj_nil ?_
                          refine ej_pl (lt_w (by kernel_rfl) (lt_y (y_move rfl) rfl (lt_y (y_loadN Try.isAgg26 Try.sizeOf26 rfl) rfl (lt_nil)))) ?_
                          refine pl_w1 3 (by kernel_rfl) rfl rfl (pl_fire rfl rfl rfl (by kernel_rfl) ?_)
                          refine oj_append (xs := ([] : List CarryV)) (c := 0) el45 (fun _ => rfl) encCa_one rfl rfl rfl (reads_sl) (by unfold maxLen; simp only [List.length_nil]; omega) (by simp only [List.length_nil]; omega) rfl (fun A216 c216 => ?_)
                          refine oj_nil ?_
                          refine ej_pl (lt_y (y_loadN Try.isAgg52 Try.sizeOf52 rfl) rfl (lt_w (by kernel_rfl) (lt_y (y_loadN Try.isAgg26 Try.sizeOf26 rfl) rfl (lt_nil)))) ?_
                          refine pl_w1 6 (by kernel_rfl) rfl rfl (pl_fire rfl rfl rfl (by kernel_rfl) ?_)
                          refine oj_append  el45 (fun _ => rfl) encCa_one rfl rfl rfl (reads_lit [(⟨z.day, 3, bag, 0, bx.by_, bx.with_, (1 + ringI n3 999999), 0⟩ : CarryV)] (fun _ => rfl) rfl) (by unfold maxLen; simp only [List.length_nil, List.length_append, List.length_cons]; omega) (by simp only [List.length_nil, List.length_append, List.length_cons]; omega) rfl (fun A219 c219 => ?_)
                          refine oj_nil ?_
                          refine ej_pl (lt_y (y_loadN Try.isAgg52 Try.sizeOf52 rfl) rfl (lt_y (y_move rfl) rfl (lt_y (y_loadN Try.isAgg26 Try.sizeOf26 rfl) rfl (lt_nil)))) ?_
                          refine pl_y 7 rfl (y_call Try.call30 rfl (fun w hp => k_Play s ((([] : List CarryV) ++ l) ++ [(⟨z.day, 3, bag, 0, bx.by_, bx.with_, (1 + ringI n3 999999), 0⟩ : CarryV)]) A219 c219 w (hs.mono hp.below) (hp.rdO (fun _ => rfl) (by unfold maxLen; simp only [List.length_append, List.length_cons, List.length_nil]; omega)))) rfl rfl rfl rfl (by kernel_rfl) ?_
                          refine pl_y 8 rfl (y_move rfl) rfl rfl rfl rfl (by kernel_rfl) ?_
                          refine pl_y 9 rfl (y_extract rfl rfl) rfl rfl rfl rfl (by kernel_rfl) ?_
                          refine pl_y 10 rfl (y_extract rfl rfl) rfl rfl rfl rfl (by kernel_rfl) ?_
                          refine pl_y 11 rfl (y_extract rfl rfl) rfl rfl rfl rfl (by kernel_rfl) ?_
                          refine pl_w1 13 (by kernel_rfl) rfl rfl (pl_fire rfl rfl rfl (by kernel_rfl) ?_)
                          refine oj_store (vs := ((playB s.s ((([] : List CarryV) ++ l) ++ [(⟨z.day, 3, bag, 0, bx.by_, bx.with_, (1 + ringI n3 999999), 0⟩ : CarryV)])).flatMap encBa)) (n := 160) (hset := set_all _ _ (by rw [bf_len (playB_len _)]; rfl)) rfl rfl rfl (bf_one _) Try.sizeOf48 (bf_len (playB_len _)) ?_
                          refine oj_nil ?_
                          refine ej_pl (lt_y (y_extract rfl rfl) rfl (lt_y (y_extract rfl rfl) rfl (lt_w (by kernel_rfl) (lt_w (by kernel_rfl) (lt_w (by kernel_rfl) (lt_w (by kernel_rfl) (lt_w (by kernel_rfl) (lt_w (by kernel_rfl) (lt_nil))))))))) ?_
                          refine pl_y 14 rfl (y_assign rfl) rfl rfl rfl rfl (by kernel_rfl) ?_
                          refine pl_y 15 rfl (y_assign rfl) rfl rfl rfl rfl (by kernel_rfl) ?_
                          refine pl_end (by kernel_rfl) ?_
                          refine ej_takes [ownB b19 (cellsB 48 ((playB s.s l).flatMap encBa))] ?_
                          exact ej_ct () trivial ⟨rfl, rfl, rfl, rfl, rfl, rfl, rfl, trivial⟩
                      · refine oj_buildSlice (cs := [.int .i64 z.day, .int .i64 3, .int .i64 bag, .int .i64 0, .int .i64 bx.by_, .int .i64 bx.with_, .int .i64 (1 + ringI n3 999999), .int .i64 0]) [.int .i64 0, .int .i64 0, .int .i64 0, .int .i64 0, .int .i64 0, .int .i64 0, .int .i64 0, .int .i64 0] Try.underlying45 Try.sizeOf52 Try.zeroValue52 rfl rfl (by kernel_rfl) (by kernel_rfl) rfl (fun b218 => ?_)
                        refine oj_nil ?_
                        refine ej_pl (lt_w (by kernel_rfl) (lt_y (y_move rfl) rfl (lt_y (y_loadN Try.isAgg26 Try.sizeOf26 rfl) rfl (lt_nil)))) ?_
                        refine pl_w1 1 (by kernel_rfl) rfl rfl (pl_fire rfl rfl rfl (by kernel_rfl) ?_)
                        refine oj_buildSlice (cs := []) [] Try.underlying45 Try.sizeOf52 Try.zeroValue52 rfl rfl (by kernel_rfl) (by kernel_rfl) rfl (fun b214 => ?_)
                        refine oj_litOw (b := b214) (e := 52) (c := 0) (sz := 8) (enc := encCa) [] rfl rfl rfl (by unfold maxLen; simp) ?_
                        refine oj_nil ?_
                        refine ej_pl (lt_y (y_loadN Try.isAgg52 Try.sizeOf52 rfl) rfl (lt_y (y_move rfl) rfl (lt_y (y_loadN Try.isAgg26 Try.sizeOf26 rfl) rfl (lt_nil)))) ?_
                        refine pl_w1 3 (by kernel_rfl) rfl rfl (pl_fire rfl rfl rfl (by kernel_rfl) ?_)
                        refine oj_append (xs := ([] : List CarryV)) (c := 0) el45 (fun _ => rfl) encCa_one rfl rfl rfl (reads_sl) (by unfold maxLen; simp only [List.length_nil]; omega) (by simp only [List.length_nil]; omega) rfl (fun A216 c216 => ?_)
                        refine oj_nil ?_
                        refine ej_pl (lt_y (y_loadN Try.isAgg52 Try.sizeOf52 rfl) rfl (lt_w (by kernel_rfl) (lt_y (y_loadN Try.isAgg26 Try.sizeOf26 rfl) rfl (lt_nil)))) ?_
                        refine pl_w1 6 (by kernel_rfl) rfl rfl (pl_fire rfl rfl rfl (by kernel_rfl) ?_)
                        refine oj_append  el45 (fun _ => rfl) encCa_one rfl rfl rfl (reads_lit [(⟨z.day, 3, bag, 0, bx.by_, bx.with_, (1 + ringI n3 999999), 0⟩ : CarryV)] (fun _ => rfl) rfl) (by unfold maxLen; simp only [List.length_nil, List.length_append, List.length_cons]; omega) (by simp only [List.length_nil, List.length_append, List.length_cons]; omega) rfl (fun A219 c219 => ?_)
                        refine oj_nil ?_
                        refine ej_pl (lt_y (y_loadN Try.isAgg52 Try.sizeOf52 rfl) rfl (lt_y (y_move rfl) rfl (lt_y (y_loadN Try.isAgg26 Try.sizeOf26 rfl) rfl (lt_nil)))) ?_
                        refine pl_y 7 rfl (y_call Try.call30 rfl (fun w hp => k_Play s ((([] : List CarryV) ++ l) ++ [(⟨z.day, 3, bag, 0, bx.by_, bx.with_, (1 + ringI n3 999999), 0⟩ : CarryV)]) A219 c219 w (hs.mono hp.below) (hp.rdO (fun _ => rfl) (by unfold maxLen; simp only [List.length_append, List.length_cons, List.length_nil]; omega)))) rfl rfl rfl rfl (by kernel_rfl) ?_
                        refine pl_y 8 rfl (y_move rfl) rfl rfl rfl rfl (by kernel_rfl) ?_
                        refine pl_y 9 rfl (y_extract rfl rfl) rfl rfl rfl rfl (by kernel_rfl) ?_
                        refine pl_y 10 rfl (y_extract rfl rfl) rfl rfl rfl rfl (by kernel_rfl) ?_
                        refine pl_y 11 rfl (y_extract rfl rfl) rfl rfl rfl rfl (by kernel_rfl) ?_
                        refine pl_w1 13 (by kernel_rfl) rfl rfl (pl_fire rfl rfl rfl (by kernel_rfl) ?_)
                        refine oj_store (vs := ((playB s.s ((([] : List CarryV) ++ l) ++ [(⟨z.day, 3, bag, 0, bx.by_, bx.with_, (1 + ringI n3 999999), 0⟩ : CarryV)])).flatMap encBa)) (n := 160) (hset := set_all _ _ (by rw [bf_len (playB_len _)]; rfl)) rfl rfl rfl (bf_one _) Try.sizeOf48 (bf_len (playB_len _)) ?_
                        refine oj_nil ?_
                        refine ej_pl (lt_y (y_extract rfl rfl) rfl (lt_y (y_extract rfl rfl) rfl (lt_w (by kernel_rfl) (lt_w (by kernel_rfl) (lt_w (by kernel_rfl) (lt_w (by kernel_rfl) (lt_w (by kernel_rfl) (lt_w (by kernel_rfl) (lt_nil))))))))) ?_
                        refine pl_y 14 rfl (y_assign rfl) rfl rfl rfl rfl (by kernel_rfl) ?_
                        refine pl_y 15 rfl (y_assign rfl) rfl rfl rfl rfl (by kernel_rfl) ?_
                        refine pl_end (by kernel_rfl) ?_
                        refine ej_takes [ownB b19 (cellsB 48 ((playB s.s l).flatMap encBa))] ?_
                        exact ej_ct () trivial ⟨rfl, rfl, rfl, rfl, rfl, rfl, rfl, trivial⟩
                  · rintro _ -
                    dsimp only [List.cons_append, List.nil_append]
                    refine cj_seq (cj_seq ?_)
                    refine cj_regionG (gj_step (y_move rfl) rfl rfl rfl (gj_step (y_lenA Try.underlying45 rfl) rfl rfl rfl (gj_step (y_geq rfl rfl) rfl rfl rfl (gj_nil ?_))))
                    refine ej_th ?_
                    refine cj_cond rfl (fun h226 => ?_) (fun h226 => ?_)
                    · have h226b := h226
                      try simp only [sxb] at h226
                      refine cj_seq ?_
                      refine cj_regionG ?_
                      refine gj_step (y_move rfl) rfl rfl rfl (gj_step (y_eql rfl rfl) rfl rfl rfl (gj_step (y_move rfl) rfl rfl rfl (?_)))
                      refine gj_g 1 229 230 rfl rfl rfl rfl (fun hg229 => gj_yes rfl rfl rfl (y_call Try.call19 rfl (fun w hp => k_works w)) rfl rfl (gj_nil rfl)) ?_
                      refine gj_step (y_and rfl rfl rfl) rfl rfl rfl (gj_step (y_assign rfl) rfl rfl rfl (?_))
                      refine gj_nil ?_
                      refine ej_th (cj_ret (ej_then_ret ?_))
                      exact ej_ret1 rfl Try.results8 rfl (fun w' hp => ⟨by simp [hp1 (by omega)], hp.below⟩)
                    · have h226b := h226
                      try simp only [sxb] at h226
                      refine cj_skip (ej_th (cj_seq ?_))
                      refine cj_regionG ?_
                      refine gj_step (y_move rfl) rfl rfl rfl (gj_step (y_move rfl) rfl rfl rfl (gj_step (y_ixArr Try.underlying48 Try.sizeOf47 rfl rfl (by omega)) rfl rfl rfl (gj_step (y_fa fa47_1 rfl) rfl rfl rfl (gj_step (y_load1 Try.isAgg3 rfl (show (((playB s.s l).flatMap encBa))[0 + bag.toNat * 5 + 1]? = _ from bf_cell hbk (j := 1) (by omega))) rfl rfl rfl (gj_step (y_eql rfl rfl) rfl rfl rfl (gj_step (y_move rfl) rfl rfl rfl (?_)))))))
                      refine gj_g 2 238 240 rfl rfl rfl rfl (fun hg238 => gj_yes rfl rfl rfl (y_move rfl) rfl rfl (gj_yes rfl rfl rfl (y_eql rfl rfl) rfl rfl (gj_nil rfl))) ?_
                      refine gj_step (y_and rfl rfl rfl) rfl rfl rfl (gj_step (y_move rfl) rfl rfl rfl (?_))
                      refine gj_g 16 242 258 rfl rfl rfl rfl (fun hg242 => gj_yes rfl rfl rfl (y_move rfl) rfl rfl (gj_yes rfl rfl rfl (y_move rfl) rfl rfl (gj_yes rfl rfl rfl (y_ixArr Try.underlying48 Try.sizeOf47 rfl rfl (by omega)) rfl rfl (gj_yes rfl rfl rfl (y_fa fa47_1 rfl) rfl rfl (gj_yes rfl rfl rfl (y_load1 Try.isAgg3 rfl (show (((playB s.s l).flatMap encBa))[0 + bag.toNat * 5 + 1]? = _ from bf_cell hbk (j := 1) (by omega))) rfl rfl (gj_yes rfl rfl rfl (y_neq rfl rfl) rfl rfl (gj_yes rfl rfl rfl (y_move rfl) rfl rfl (gj_g 2 249 251 rfl rfl rfl rfl (fun hg249 => gj_yes rfl rfl rfl (y_move rfl) rfl rfl (gj_yes rfl rfl rfl (y_eql rfl rfl) rfl rfl (gj_nil rfl))) (gj_yes rfl rfl rfl (y_and rfl rfl rfl) rfl rfl (gj_yes rfl rfl rfl (y_move rfl) rfl rfl (gj_g 4 253 257 rfl rfl rfl rfl (fun hg253 => gj_yes rfl rfl rfl (y_move rfl) rfl rfl (gj_yes rfl rfl rfl (y_move rfl) rfl rfl (gj_yes rfl rfl rfl (y_lenA Try.underlying45 rfl) rfl rfl (gj_yes rfl rfl rfl (y_eql rfl rfl) rfl rfl (gj_nil rfl))))) (gj_yes rfl rfl rfl (y_and rfl rfl rfl) rfl rfl (gj_nil rfl))))))))))))) ?_
                      refine gj_step (y_or rfl rfl rfl) rfl rfl rfl (gj_step (y_move rfl) rfl rfl rfl (?_))
                      refine gj_g 1 260 261 rfl rfl rfl rfl (fun hg260 => gj_yes rfl rfl rfl (y_call Try.call19 rfl (fun w hp => k_works w)) rfl rfl (gj_nil rfl)) ?_
                      refine gj_step (y_and rfl rfl rfl) rfl rfl rfl (gj_step (y_assign rfl) rfl rfl rfl (?_))
                      refine gj_nil ?_
                      refine ej_th (cj_ret ?_)
                      refine ej_ret1 rfl Try.results8 rfl (fun w' hp => ⟨?_, hp.below⟩)
                      obtain ⟨hp3, hp4⟩ := hp2 (by omega)
                      by_cases h9 : (1 + ringI n3 999999) = bx.mark
                      · rw [hp3 h9]
                        simp [h9]
                      · obtain ⟨q1, q2⟩ := hp4 h9
                        rw [q1, q2]
                        simp [h9]

end Go.Proofs.Ytomidcehahdmbaa
namespace Go.Proofs.Ytomidcehahdmbaa
open Go.Sx Go.RowKit
set_option maxRecDepth 20000
theorem fa72_0 : FieldIs Try.prog 72 0 0 8 true := ⟨⟨_, _, Try.underlying72, rfl, rfl, Try.sizeOf52, Try.isAgg52, by decide⟩⟩
theorem fa72_1 : FieldIs Try.prog 72 1 8 1 false := ⟨⟨_, _, Try.underlying72, rfl, rfl, Try.sizeOf27, Try.isAgg27, by decide⟩⟩
theorem st72 : StructIs Try.prog 72 [(0, 8), (8, 1)] [.int .i64 0, .int .i64 0, .int .i64 0, .int .i64 0, .int .i64 0, .int .i64 0, .int .i64 0, .int .i64 0, .int .i64 0] := ⟨⟨_, Try.underlying72, fun w => by simp [Try.sizeOf27, Try.sizeOf52], Try.zeroValue72⟩⟩
end Go.Proofs.Ytomidcehahdmbaa
