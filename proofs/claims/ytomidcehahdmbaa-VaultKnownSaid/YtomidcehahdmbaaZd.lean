/- Texts of ours, joined: 21 of them. Conditions: none. -/
import Derived.Test.YtomidcehahdmbaaZc
import Derived.Test.YtomidcehahdmbaaProg
import Derived.Laws.StructEq
namespace Go.Proofs.Ytomidcehahdmbaa
open Go.Sx Go.RowKit
set_option maxRecDepth 20000
theorem fa26_0 : FieldIs Try.prog 26 0 0 1 false := ⟨⟨_, _, Try.underlying26, rfl, rfl, Try.sizeOf22, Try.isAgg22, by decide⟩⟩
theorem fa26_1 : FieldIs Try.prog 26 1 1 1 false := ⟨⟨_, _, Try.underlying26, rfl, rfl, Try.sizeOf23, Try.isAgg23, by decide⟩⟩
theorem fa26_2 : FieldIs Try.prog 26 2 2 1 false := ⟨⟨_, _, Try.underlying26, rfl, rfl, Try.sizeOf24, Try.isAgg24, by decide⟩⟩
theorem fa69_0 : FieldIs Try.prog 69 0 0 1 false := ⟨⟨_, _, Try.underlying69, rfl, rfl, Try.sizeOf3, Try.isAgg3, by decide⟩⟩
theorem fa69_1 : FieldIs Try.prog 69 1 1 1 false := ⟨⟨_, _, Try.underlying69, rfl, rfl, Try.sizeOf3, Try.isAgg3, by decide⟩⟩
theorem fa69_2 : FieldIs Try.prog 69 2 2 1 false := ⟨⟨_, _, Try.underlying69, rfl, rfl, Try.sizeOf3, Try.isAgg3, by decide⟩⟩
theorem fa69_3 : FieldIs Try.prog 69 3 3 1 false := ⟨⟨_, _, Try.underlying69, rfl, rfl, Try.sizeOf24, Try.isAgg24, by decide⟩⟩
theorem fa71_0 : FieldIs Try.prog 71 0 0 1 false := ⟨⟨_, _, Try.underlying71, rfl, rfl, Try.sizeOf3, Try.isAgg3, by decide⟩⟩
theorem fa71_1 : FieldIs Try.prog 71 1 1 1 false := ⟨⟨_, _, Try.underlying71, rfl, rfl, Try.sizeOf3, Try.isAgg3, by decide⟩⟩
theorem fa71_2 : FieldIs Try.prog 71 2 2 1 false := ⟨⟨_, _, Try.underlying71, rfl, rfl, Try.sizeOf3, Try.isAgg3, by decide⟩⟩
theorem fa76_0 : FieldIs Try.prog 76 0 0 3 true := ⟨⟨_, _, Try.underlying76, rfl, rfl, Try.sizeOf26, Try.isAgg26, by decide⟩⟩
theorem st76 : StructIs Try.prog 76 [(0, 3), (3, 1)] [.slice none 0 0, .slice none 0 0, .slice none 0 0, .int .i64 0] := ⟨⟨_, Try.underlying76, fun w => by simp [Try.sizeOf26, Try.sizeOf3], Try.zeroValue76⟩⟩
end Go.Proofs.Ytomidcehahdmbaa
namespace Go.Proofs.Ytomidcehahdmbaa
open Go.Sx Go.RowKit Vm
set_option maxRecDepth 20000
theorem k_within (n lo hi : Int) (w : World)  : Calls Try.prog 46 #[.int .i64 n, .int .i64 lo, .int .i64 hi] w (fun e w' => e = .returned (.bool (btw lo n hi)) ∧ Grow w w') := by
  refine enter_pure (args := [.int .i64 n, .int .i64 lo, .int .i64 hi]) [] Try.func46 rfl (by rw [Try.ntmps46]; simp) (by simp) ?_
  refine cj_seq ?_
  refine cj_regionG (gj_step (y_assign rfl) rfl rfl rfl (gj_nil ?_))
  refine ej_th (cj_seq ?_)
  refine cj_regionG (gj_step (y_move rfl) rfl rfl rfl (gj_step (y_move rfl) rfl rfl rfl (gj_step (y_geq rfl rfl) rfl rfl rfl (gj_step (y_move rfl) rfl rfl rfl (gj_g 3 10 13 rfl rfl rfl rfl (fun hg10 => gj_yes rfl rfl rfl (y_move rfl) rfl rfl (gj_yes rfl rfl rfl (y_move rfl) rfl rfl (gj_yes rfl rfl rfl (y_leq rfl rfl) rfl rfl (gj_nil rfl)))) (gj_step (y_and rfl rfl rfl) rfl rfl rfl (gj_step (y_assign rfl) rfl rfl rfl (gj_nil ?_))))))))
  refine ej_th (cj_ret ?_)
  exact ej_ret1 rfl Try.results46 rfl (fun w' hp => ⟨rfl, hp.below⟩)

theorem k_From (lo n hi : Int) (w : World)  : Calls Try.prog 27 #[.int .i64 lo, .int .i64 n, .int .i64 hi] w (fun e w' => e = .returned (.bool (btw lo n hi)) ∧ Grow w w') := by
  refine enter_pure (args := [.int .i64 lo, .int .i64 n, .int .i64 hi]) [] Try.func27 rfl (by rw [Try.ntmps27]; simp) (by simp) ?_
  refine cj_seq ?_
  refine cj_regionG (gj_step (y_assign rfl) rfl rfl rfl (gj_nil ?_))
  refine ej_th (cj_seq ?_)
  refine cj_regionG (gj_step (y_move rfl) rfl rfl rfl (gj_step (y_move rfl) rfl rfl rfl (gj_step (y_leq rfl rfl) rfl rfl rfl (gj_step (y_move rfl) rfl rfl rfl (gj_g 3 10 13 rfl rfl rfl rfl (fun hg10 => gj_yes rfl rfl rfl (y_move rfl) rfl rfl (gj_yes rfl rfl rfl (y_move rfl) rfl rfl (gj_yes rfl rfl rfl (y_leq rfl rfl) rfl rfl (gj_nil rfl)))) (gj_step (y_and rfl rfl rfl) rfl rfl rfl (gj_step (y_assign rfl) rfl rfl rfl (gj_nil ?_))))))))
  refine ej_th (cj_ret ?_)
  exact ej_ret1 rfl Try.results27 rfl (fun w' hp => ⟨rfl, hp.below⟩)

theorem k_Bit (n k : Nat) (w : World) (hk : k ≤ 64) : Calls Try.prog 29 #[.int .i64 (n : Nat), .int .i64 (k : Nat)] w (fun e w' => e = .returned (.bool (n.testBit k)) ∧ Grow w w') := by
  refine enter_pure (args := [.int .i64 (n : Nat), .int .i64 (k : Nat)]) [] Try.func29 rfl (by rw [Try.ntmps29]; simp) (by simp) ?_
  refine cj_seq ?_
  refine cj_regionG (gj_step (y_assign rfl) rfl rfl rfl (gj_nil ?_))
  refine ej_th (cj_seq ?_)
  refine cj_regionG (gj_step (y_move rfl) rfl rfl rfl (gj_step (y_move rfl) rfl rfl rfl (gj_step (y_shr rfl rfl hk) rfl rfl rfl (gj_step (y_rem rfl rfl (Int.natCast_nonneg _) (by omega)) rfl rfl rfl (gj_step (y_eql rfl rfl) rfl rfl rfl (gj_step (y_assign rfl) rfl rfl rfl (gj_nil ?_)))))))
  refine ej_th (cj_ret ?_)
  refine ej_ret1 rfl Try.results29 rfl (fun w' hp => ⟨?_, hp.below⟩)
  rw [bit_V]

theorem k_set (n : Int) (many : Nat) (w : World) (hm : many ≤ 62) : Calls Try.prog 47 #[.int .i64 n, .int .i64 (many : Nat)] w (fun e w' => e = .returned (.bool (btw 0 n ((2 ^ many : Nat) - 1))) ∧ Grow w w') := by
  have hp0 : 2 ^ many ≤ 2 ^ 62 := Nat.pow_le_pow_right (by decide) hm
  have hp1 : 0 < 2 ^ many := Nat.two_pow_pos _
  refine enter_pure (args := [.int .i64 n, .int .i64 (many : Nat)]) [] Try.func47 rfl (by rw [Try.ntmps47]; simp) (by simp) ?_
  refine cj_seq ?_
  refine cj_regionG (gj_step (y_assign rfl) rfl rfl rfl (gj_nil ?_))
  refine ej_th (cj_seq ?_)
  refine cj_regionG ?_
  refine gj_step (y_move rfl) rfl rfl rfl (gj_step (y_move rfl) rfl rfl rfl (gj_step (y_shl1 rfl rfl hm) rfl rfl rfl (gj_step (y_sub rfl rfl (by omega)) rfl rfl rfl (?_))))
  refine gj_step (y_call Try.call46 rfl (fun w hp => k_within _ _ _ w)) rfl rfl rfl ?_
  refine gj_step (y_assign rfl) rfl rfl rfl (?_)
  refine gj_nil ?_
  refine ej_th (cj_ret ?_)
  exact ej_ret1 rfl Try.results47 rfl (fun w' hp => ⟨rfl, hp.below⟩)

theorem k_has (a b : Nat) (w : World) (ha : a ≤ 9223372036854775807) (hb : b ≤ 9223372036854775807) : Calls Try.prog 55 #[.int .i64 (a : Nat), .int .i64 (b : Nat)] w (fun e w' => e = .returned (.bool (hasN a b)) ∧ Grow w w') := by
  refine enter_pure (args := [.int .i64 (a : Nat), .int .i64 (b : Nat)]) [] Try.func55 rfl (by rw [Try.ntmps55]; simp) (by simp) ?_
  refine cj_seq ?_
  refine cj_regionG (gj_step (y_assign rfl) rfl rfl rfl (gj_nil ?_))
  refine ej_th (cj_seq ?_)
  refine cj_regionG (gj_step (y_move rfl) rfl rfl rfl (gj_step (y_move rfl) rfl rfl rfl (gj_step (y_andNotN rfl rfl hb ha) rfl rfl rfl (gj_step (y_eql rfl rfl) rfl rfl rfl (gj_step (y_assign rfl) rfl rfl rfl (gj_nil ?_))))))
  refine ej_th (cj_ret ?_)
  refine ej_ret1 rfl Try.results55 rfl (fun w' hp => ⟨?_, hp.below⟩)
  rw [has_V]

theorem k_IndexI (l : List Int) (A : Option Addr) (c : Nat) (f : Nat) (ca : Array Value) (q : Int → Bool) (w : World) (hl : Rd w 1 enInt A l) (hen : ∀ args w, (callFunc f args).run Try.prog w = .ok (.enter f args) w) (hpp : ∀ x ∈ l, ∀ w1, Grow w w1 → Calls Try.prog f (#[] ++ [.int .i64 x].toArray ++ ca) w1 (fun e w2 => e = .returned (.bool (q x)) ∧ Grow w1 w2)) : Calls Try.prog 72 #[.slice A l.length c, .func (.func f) #[] ca] w (fun e w' => e = .returned (.int .i64 (fidx q l 0)) ∧ Grow w w') := by
  have hlen := hl.len
  refine enter_pure (args := [.slice A l.length c, .func (.func f) #[] ca]) [sl (fun b => b < w.heap.size) 1 enInt A l] Try.func72 rfl (by rw [Try.ntmps72]; simp) (fun g hg => by simp at hg; subst hg; exact ⟨hl, fun _ h => h⟩) ?_
  refine cj_seq ?_
  refine cj_regionG (gj_step (y_assign rfl) rfl rfl rfl (gj_nil ?_))
  refine ej_th (cj_seq (cj_seq ?_))
  refine cj_regionG (gj_step (y_move rfl) rfl rfl rfl (gj_step (y_lenA Try.underlying24 rfl) rfl rfl rfl (gj_step (y_move rfl) rfl rfl rfl (gj_nil ?_))))
  refine ej_th (cj_block ?_)
  refine cj_lpic (X := Nat) [(0, _), (1, _), (7, _)] (fun k => k ≤ l.length ∧ fidx q (l.drop k) k = fidx q l 0) (fun k => [(8, .int .i64 k)]) (fun k => l.length - k) 0 (⟨Nat.zero_le _, rfl⟩) ⟨rfl, rfl, rfl, rfl, trivial⟩ ?_
  rintro k ⟨hk, hsk⟩
  dsimp only [List.cons_append, List.nil_append]
  refine cj_seq ?_
  refine cj_regionG (gj_step (y_lss rfl rfl) rfl rfl rfl (gj_nil ?_))
  refine ej_th (cj_seq ?_)
  refine cj_cond rfl (fun h9 => ?_) (fun h9 => ?_)
  · have h9b := h9
    try simp only [sxb] at h9
    obtain ⟨x, hx⟩ : ∃ x, l[k]? = some x := ⟨_, List.getElem?_eq_getElem (by omega)⟩
    rw [fidx_drop q l k x hx] at hsk
    refine cj_skip (ej_th (cj_seq (cj_block (cj_seq ?_))))
    refine cj_regionG (gj_step (y_move rfl) rfl rfl rfl (gj_step (y_assign rfl) rfl rfl rfl (gj_nil ?_)))
    refine ej_th (cj_seq ?_)
    refine cj_regionG ?_
    refine gj_step (y_move rfl) rfl rfl rfl (gj_step (y_move rfl) rfl rfl rfl (gj_step (y_move rfl) rfl rfl rfl (gj_step (y_ixR (reads_sl) Try.underlying24 Try.sizeOf3 rfl rfl (⟨by omega, by omega⟩)) rfl rfl rfl (gj_step (y_ld0 (reads_sl) Try.isAgg3 rfl (hx) rfl) rfl rfl rfl (?_)))))
    refine gj_step (y_callV hen rfl rfl (fun w1 hp => hpp x (List.mem_of_getElem? hx) w1 hp.below)) rfl rfl rfl ?_
    refine gj_nil ?_
    refine ej_th ?_
    refine cj_cond rfl (fun h16 => ?_) (fun h16 => ?_)
    · have h16b := h16
      try simp only [sxb] at h16
      refine cj_seq ?_
      refine cj_regionG (gj_step (y_move rfl) rfl rfl rfl (gj_step (y_assign rfl) rfl rfl rfl (gj_nil ?_)))
      refine ej_th (cj_ret (ej_blk_ret (ej_then_ret (ej_then_ret (ej_blk_ret (ej_then_ret ?_))))))
      refine ej_ret1 rfl Try.results72 rfl (fun w' hp => ⟨?_, hp.below⟩)
      rw [← hsk, if_pos h16b]
    · have h16b := h16
      try simp only [sxb] at h16
      refine cj_skip (ej_blk (ej_th ?_))
      refine cj_regionG (gj_step (y_add rfl rfl (by omega)) rfl rfl rfl (gj_step (y_move rfl) rfl rfl rfl (gj_nil ?_)))
      exact ej_nx (k + 1) (by omega) ⟨by omega, by rw [← hsk, if_neg (by rw [h16b]; simp)]⟩ ⟨rfl, rfl, rfl, rfl, trivial⟩
  · have h9b := h9
    try simp only [sxb] at h9
    refine cj_exit (ej_then_exit (ej_then_exit (ej_blk_hit (ej_th (cj_seq ?_)))))
    refine cj_regionG (gj_step (y_assign rfl) rfl rfl rfl (gj_nil ?_))
    refine ej_th (cj_ret ?_)
    refine ej_ret1 rfl Try.results72 rfl (fun w' hp => ⟨?_, hp.below⟩)
    rw [← hsk, List.drop_of_length_le (by omega)]; rfl

theorem k_ContI (l : List Int) (A : Option Addr) (c : Nat) (f : Nat) (ca : Array Value) (q : Int → Bool) (w : World) (hl : Rd w 1 enInt A l) (hen : ∀ args w, (callFunc f args).run Try.prog w = .ok (.enter f args) w) (hpp : ∀ x ∈ l, ∀ w1, Grow w w1 → Calls Try.prog f (#[] ++ [.int .i64 x].toArray ++ ca) w1 (fun e w2 => e = .returned (.bool (q x)) ∧ Grow w1 w2)) : Calls Try.prog 48 #[.slice A l.length c, .func (.func f) #[] ca] w (fun e w' => e = .returned (.bool (l.any q)) ∧ Grow w w') := by
  refine enter_pure (args := [.slice A l.length c, .func (.func f) #[] ca]) [sl (fun b => b < w.heap.size) 1 enInt A l] Try.func48 rfl (by rw [Try.ntmps48]; simp) (fun g hg => by simp at hg; subst hg; exact ⟨hl, fun _ h => h⟩) ?_
  refine cj_seq ?_
  refine cj_regionG (gj_step (y_assign rfl) rfl rfl rfl (gj_nil ?_))
  refine ej_th (cj_seq ?_)
  refine cj_regionG ?_
  refine gj_step (y_move rfl) rfl rfl rfl (gj_step (y_move rfl) rfl rfl rfl (?_))
  refine gj_step (y_call Try.call72 rfl (fun w hp => k_IndexI l A c f ca q w hp.rd hen (fun x hx w1 hg => hpp x hx w1 (grow_trans hp.below hg)))) rfl rfl rfl ?_
  refine gj_step (y_geq rfl rfl) rfl rfl rfl (gj_step (y_assign rfl) rfl rfl rfl (?_))
  refine gj_nil ?_
  refine ej_th (cj_ret ?_)
  refine ej_ret1 rfl Try.results48 rfl (fun w' hp => ⟨?_, hp.below⟩)
  rw [fidx_any q l]

theorem k_IndexG (l : List GateV) (A : Option Addr) (c : Nat) (f : Nat) (ca : Array Value) (q : GateV → Bool) (w : World) (hl : Rd w 4 encGa A l) (hen : ∀ args w, (callFunc f args).run Try.prog w = .ok (.enter f args) w) (hpp : ∀ x ∈ l, ∀ w1, Grow w w1 → Calls Try.prog f (#[] ++ [.agg #[.int .i64 x.a, .int .i64 x.b, .int .i64 x.need, .slice x.A x.ways.length x.c]].toArray ++ ca) w1 (fun e w2 => e = .returned (.bool (q x)) ∧ Grow w1 w2)) : Calls Try.prog 73 #[.slice A l.length c, .func (.func f) #[] ca] w (fun e w' => e = .returned (.int .i64 (fidx q l 0)) ∧ Grow w w') := by
  have hlen := hl.len
  refine enter_pure (args := [.slice A l.length c, .func (.func f) #[] ca]) [sl (fun b => b < w.heap.size) 4 encGa A l] Try.func73 rfl (by rw [Try.ntmps73]; simp) (fun g hg => by simp at hg; subst hg; exact ⟨hl, fun _ h => h⟩) ?_
  refine cj_seq ?_
  refine cj_regionG (gj_step (y_assign rfl) rfl rfl rfl (gj_nil ?_))
  refine ej_th (cj_seq (cj_seq ?_))
  refine cj_regionG (gj_step (y_move rfl) rfl rfl rfl (gj_step (y_lenA Try.underlying23 rfl) rfl rfl rfl (gj_step (y_move rfl) rfl rfl rfl (gj_nil ?_))))
  refine ej_th (cj_block ?_)
  refine cj_lpic (X := Nat) [(0, _), (1, _), (7, _)] (fun k => k ≤ l.length ∧ fidx q (l.drop k) k = fidx q l 0) (fun k => [(8, .int .i64 k)]) (fun k => l.length - k) 0 (⟨Nat.zero_le _, rfl⟩) ⟨rfl, rfl, rfl, rfl, trivial⟩ ?_
  rintro k ⟨hk, hsk⟩
  dsimp only [List.cons_append, List.nil_append]
  refine cj_seq ?_
  refine cj_regionG (gj_step (y_lss rfl rfl) rfl rfl rfl (gj_nil ?_))
  refine ej_th (cj_seq ?_)
  refine cj_cond rfl (fun h9 => ?_) (fun h9 => ?_)
  · have h9b := h9
    try simp only [sxb] at h9
    obtain ⟨x, hx⟩ : ∃ x, l[k]? = some x := ⟨_, List.getElem?_eq_getElem (by omega)⟩
    rw [fidx_drop q l k x hx] at hsk
    refine cj_skip (ej_th (cj_seq (cj_block (cj_seq ?_))))
    refine cj_regionG (gj_step (y_move rfl) rfl rfl rfl (gj_step (y_assign rfl) rfl rfl rfl (gj_nil ?_)))
    refine ej_th (cj_seq ?_)
    refine cj_regionG ?_
    refine gj_step (y_move rfl) rfl rfl rfl (gj_step (y_move rfl) rfl rfl rfl (gj_step (y_move rfl) rfl rfl rfl (gj_step (y_ixR (reads_sl) Try.underlying23 Try.sizeOf69 rfl rfl (⟨by omega, by omega⟩)) rfl rfl rfl (gj_step (y_ldW (reads_sl) Try.isAgg69 Try.sizeOf69 rfl (hx) (fun _ => rfl)) rfl rfl rfl (?_)))))
    refine gj_step (y_callV hen rfl rfl (fun w1 hp => hpp x (List.mem_of_getElem? hx) w1 hp.below)) rfl rfl rfl ?_
    refine gj_nil ?_
    refine ej_th ?_
    refine cj_cond rfl (fun h16 => ?_) (fun h16 => ?_)
    · have h16b := h16
      try simp only [sxb] at h16
      refine cj_seq ?_
      refine cj_regionG (gj_step (y_move rfl) rfl rfl rfl (gj_step (y_assign rfl) rfl rfl rfl (gj_nil ?_)))
      refine ej_th (cj_ret (ej_blk_ret (ej_then_ret (ej_then_ret (ej_blk_ret (ej_then_ret ?_))))))
      refine ej_ret1 rfl Try.results73 rfl (fun w' hp => ⟨?_, hp.below⟩)
      rw [← hsk, if_pos h16b]
    · have h16b := h16
      try simp only [sxb] at h16
      refine cj_skip (ej_blk (ej_th ?_))
      refine cj_regionG (gj_step (y_add rfl rfl (by omega)) rfl rfl rfl (gj_step (y_move rfl) rfl rfl rfl (gj_nil ?_)))
      exact ej_nx (k + 1) (by omega) ⟨by omega, by rw [← hsk, if_neg (by rw [h16b]; simp)]⟩ ⟨rfl, rfl, rfl, rfl, trivial⟩
  · have h9b := h9
    try simp only [sxb] at h9
    refine cj_exit (ej_then_exit (ej_then_exit (ej_blk_hit (ej_th (cj_seq ?_)))))
    refine cj_regionG (gj_step (y_assign rfl) rfl rfl rfl (gj_nil ?_))
    refine ej_th (cj_ret ?_)
    refine ej_ret1 rfl Try.results73 rfl (fun w' hp => ⟨?_, hp.below⟩)
    rw [← hsk, List.drop_of_length_le (by omega)]; rfl

theorem k_ContG (l : List GateV) (A : Option Addr) (c : Nat) (f : Nat) (ca : Array Value) (q : GateV → Bool) (w : World) (hl : Rd w 4 encGa A l) (hen : ∀ args w, (callFunc f args).run Try.prog w = .ok (.enter f args) w) (hpp : ∀ x ∈ l, ∀ w1, Grow w w1 → Calls Try.prog f (#[] ++ [.agg #[.int .i64 x.a, .int .i64 x.b, .int .i64 x.need, .slice x.A x.ways.length x.c]].toArray ++ ca) w1 (fun e w2 => e = .returned (.bool (q x)) ∧ Grow w1 w2)) : Calls Try.prog 50 #[.slice A l.length c, .func (.func f) #[] ca] w (fun e w' => e = .returned (.bool (l.any q)) ∧ Grow w w') := by
  refine enter_pure (args := [.slice A l.length c, .func (.func f) #[] ca]) [sl (fun b => b < w.heap.size) 4 encGa A l] Try.func50 rfl (by rw [Try.ntmps50]; simp) (fun g hg => by simp at hg; subst hg; exact ⟨hl, fun _ h => h⟩) ?_
  refine cj_seq ?_
  refine cj_regionG (gj_step (y_assign rfl) rfl rfl rfl (gj_nil ?_))
  refine ej_th (cj_seq ?_)
  refine cj_regionG ?_
  refine gj_step (y_move rfl) rfl rfl rfl (gj_step (y_move rfl) rfl rfl rfl (?_))
  refine gj_step (y_call Try.call73 rfl (fun w hp => k_IndexG l A c f ca q w hp.rd hen (fun x hx w1 hg => hpp x hx w1 (grow_trans hp.below hg)))) rfl rfl rfl ?_
  refine gj_step (y_geq rfl rfl) rfl rfl rfl (gj_step (y_assign rfl) rfl rfl rfl (?_))
  refine gj_nil ?_
  refine ej_th (cj_ret ?_)
  refine ej_ret1 rfl Try.results50 rfl (fun w' hp => ⟨?_, hp.below⟩)
  rw [fidx_any q l]

theorem k_ck1 (n : Int) (w : World)  : Calls Try.prog 49 #[.int .i64 n] w (fun e w' => e = .returned (.bool (!(btw 0 n 255))) ∧ Grow w w') := by
  refine enter_pure (args := [.int .i64 n]) [] Try.func49 rfl (by rw [Try.ntmps49]; simp) (by simp) ?_
  refine cj_seq ?_
  refine cj_regionG (gj_step (y_assign rfl) rfl rfl rfl (gj_nil ?_))
  refine ej_th (cj_seq ?_)
  refine cj_regionG ?_
  refine gj_step (y_move rfl) rfl rfl rfl (?_)
  refine gj_step (y_call Try.call47 rfl (fun w hp => k_set _ 8 w (by omega))) rfl rfl rfl ?_
  refine gj_step (y_not rfl) rfl rfl rfl (gj_step (y_assign rfl) rfl rfl rfl (?_))
  refine gj_nil ?_
  refine ej_th (cj_ret ?_)
  exact ej_ret1 rfl Try.results49 rfl (fun w' hp => ⟨rfl, hp.below⟩)

theorem k_ga1 (n : Int) (w : World)  : Calls Try.prog 74 #[.int .i64 n] w (fun e w' => e = .returned (.bool (!(btw 0 n 255))) ∧ Grow w w') := by
  refine enter_pure (args := [.int .i64 n]) [] Try.func74 rfl (by rw [Try.ntmps74]; simp) (by simp) ?_
  refine cj_seq ?_
  refine cj_regionG (gj_step (y_assign rfl) rfl rfl rfl (gj_nil ?_))
  refine ej_th (cj_seq ?_)
  refine cj_regionG ?_
  refine gj_step (y_move rfl) rfl rfl rfl (?_)
  refine gj_step (y_call Try.call47 rfl (fun w hp => k_set _ 8 w (by omega))) rfl rfl rfl ?_
  refine gj_step (y_not rfl) rfl rfl rfl (gj_step (y_assign rfl) rfl rfl rfl (?_))
  refine gj_nil ?_
  refine ej_th (cj_ret ?_)
  exact ej_ret1 rfl Try.results74 rfl (fun w' hp => ⟨rfl, hp.below⟩)

theorem k_gate (s : StrV) (n : Int) (g : GateV) (w : World) (hr : s.rooms.length ≤ 9223372036854775807) (hg : Rd w 1 enInt g.A g.ways) : Calls Try.prog 52 #[.agg #[.slice s.Ar s.rooms.length s.cr, .slice s.Ag s.gates.length s.cg, .slice s.As s.staff.length s.cs, .int .i64 n], .agg #[.int .i64 g.a, .int .i64 g.b, .int .i64 g.need, .slice g.A g.ways.length g.c]] w (fun e w' => e = .returned (.bool (gateB s.rooms.length g.n)) ∧ Grow w w') := by
  refine enter_pure (args := [.agg #[.slice s.Ar s.rooms.length s.cr, .slice s.Ag s.gates.length s.cg, .slice s.As s.staff.length s.cs, .int .i64 n], .agg #[.int .i64 g.a, .int .i64 g.b, .int .i64 g.need, .slice g.A g.ways.length g.c]]) [sl (fun b => b < w.heap.size) 1 enInt g.A g.ways] Try.func52 rfl (by rw [Try.ntmps52]; simp) (fun g hg => by simp at hg; subst hg; exact ⟨hg, fun _ h => h⟩) ?_
  refine cj_seq (cj_region ?_)
  refine oj_box rfl rfl rfl (fun b2 => ?_)
  refine oj_box rfl rfl rfl (fun b3 => ?_)
  refine oj_step (y_assign rfl) rfl rfl rfl ?_
  refine oj_nil ?_
  refine ej_th (cj_seq (cj_seq ?_))
  refine cj_regionG ?_
  refine gj_step (y_fa0 fa69_0 rfl) rfl rfl rfl (gj_step (y_load1 Try.isAgg3 rfl rfl) rfl rfl rfl (gj_step (y_fa0 fa76_0 rfl) rfl rfl rfl (gj_step (y_fa0 fa26_0 rfl) rfl rfl rfl (gj_step (y_load1 Try.isAgg22 rfl rfl) rfl rfl rfl (gj_step (y_lenA Try.underlying22 rfl) rfl rfl rfl (gj_step (y_sub rfl rfl (by omega)) rfl rfl rfl (?_)))))))
  refine gj_step (y_call Try.call46 rfl (fun w hp => k_within _ _ _ w)) rfl rfl rfl ?_
  refine gj_step (y_not rfl) rfl rfl rfl (gj_step (y_move rfl) rfl rfl rfl (?_))
  refine gj_g 9 14 23 rfl rfl rfl rfl (fun hg14 => gj_yes rfl rfl rfl (y_fa fa69_1 rfl) rfl rfl (gj_yes rfl rfl rfl (y_load1 Try.isAgg3 rfl rfl) rfl rfl (gj_yes rfl rfl rfl (y_fa0 fa76_0 rfl) rfl rfl (gj_yes rfl rfl rfl (y_fa0 fa26_0 rfl) rfl rfl (gj_yes rfl rfl rfl (y_load1 Try.isAgg22 rfl rfl) rfl rfl (gj_yes rfl rfl rfl (y_lenA Try.underlying22 rfl) rfl rfl (gj_yes rfl rfl rfl (y_sub rfl rfl (by omega)) rfl rfl (gj_yes rfl rfl rfl (y_call Try.call46 rfl (fun w hp => k_within _ _ _ w)) rfl rfl (gj_yes rfl rfl rfl (y_not rfl) rfl rfl (gj_nil rfl)))))))))) ?_
  refine gj_step (y_or rfl rfl rfl) rfl rfl rfl (gj_step (y_move rfl) rfl rfl rfl (?_))
  refine gj_g 5 25 30 rfl rfl rfl rfl (fun hg25 => gj_yes rfl rfl rfl (y_fa0 fa69_0 rfl) rfl rfl (gj_yes rfl rfl rfl (y_load1 Try.isAgg3 rfl rfl) rfl rfl (gj_yes rfl rfl rfl (y_fa fa69_1 rfl) rfl rfl (gj_yes rfl rfl rfl (y_load1 Try.isAgg3 rfl rfl) rfl rfl (gj_yes rfl rfl rfl (y_eql rfl rfl) rfl rfl (gj_nil rfl)))))) ?_
  refine gj_step (y_or rfl rfl rfl) rfl rfl rfl (gj_step (y_move rfl) rfl rfl rfl (?_))
  refine gj_g 4 32 36 rfl rfl rfl rfl (fun hg32 => gj_yes rfl rfl rfl (y_fa fa69_2 rfl) rfl rfl (gj_yes rfl rfl rfl (y_load1 Try.isAgg3 rfl rfl) rfl rfl (gj_yes rfl rfl rfl (y_call Try.call46 rfl (fun w hp => k_within _ _ _ w)) rfl rfl (gj_yes rfl rfl rfl (y_not rfl) rfl rfl (gj_nil rfl))))) ?_
  refine gj_step (y_or rfl rfl rfl) rfl rfl rfl (gj_step (y_move rfl) rfl rfl rfl (?_))
  refine gj_g 5 38 43 rfl rfl rfl rfl (fun hg38 => gj_yes rfl rfl rfl (y_fa fa69_3 rfl) rfl rfl (gj_yes rfl rfl rfl (y_load1 Try.isAgg24 rfl rfl) rfl rfl (gj_yes rfl rfl rfl (y_lenA Try.underlying24 rfl) rfl rfl (gj_yes rfl rfl rfl (y_call Try.call46 rfl (fun w hp => k_within _ _ _ w)) rfl rfl (gj_yes rfl rfl rfl (y_not rfl) rfl rfl (gj_nil rfl)))))) ?_
  refine gj_step (y_or rfl rfl rfl) rfl rfl rfl (?_)
  refine gj_nil ?_
  refine ej_th ?_
  refine cj_cond rfl (fun h44 => ?_) (fun h44 => ?_)
  · have h44b := h44
    try simp only [sxb] at h44
    rw [gate1_V] at h44b
    refine cj_seq ?_
    refine cj_regionG (gj_step (y_assign rfl) rfl rfl rfl (gj_nil ?_))
    refine ej_th (cj_ret (ej_then_ret ?_))
    refine ej_ret1 rfl Try.results52 rfl (fun w' hp => ⟨?_, hp.below⟩)
    rw [gate1_eq, not_t h44b]; rfl
  · have h44b := h44
    try simp only [sxb] at h44
    rw [gate1_V] at h44b
    refine cj_skip (ej_th (cj_seq ?_))
    refine cj_regionG ?_
    refine gj_step (y_fa fa69_3 rfl) rfl rfl rfl (gj_step (y_load1 Try.isAgg24 rfl rfl) rfl rfl rfl (?_))
    refine gj_step (y_call Try.call48 rfl (fun w hp => k_ContI (g.ways) g.A g.c 74 #[] (fun n => !(btw 0 n 255)) w hp.rd Try.call74 (fun x hx w1 hg => k_ga1 x w1))) rfl rfl rfl ?_
    refine gj_step (y_not rfl) rfl rfl rfl (gj_step (y_assign rfl) rfl rfl rfl (?_))
    refine gj_nil ?_
    refine ej_th (cj_ret ?_)
    refine ej_ret1 rfl Try.results52 rfl (fun w' hp => ⟨?_, hp.below⟩)
    rw [gate1_eq, not_f h44b, any_not, Bool.not_not]; rfl

theorem k_ck2 (s : StrV) (g : GateV) (b : Nat) (w : World) (hr : s.rooms.length ≤ 9223372036854775807) (hg : Rd w 1 enInt g.A g.ways) (hb : (ownB b (cellsB 26 [.slice s.Ar s.rooms.length s.cr, .slice s.Ag s.gates.length s.cg, .slice s.As s.staff.length s.cs])).P w) : Calls Try.prog 51 #[.agg #[.int .i64 g.a, .int .i64 g.b, .int .i64 g.need, .slice g.A g.ways.length g.c], .pointer (some ⟨b, 0, none⟩)] w (fun e w' => e = .returned (.bool (!(gateB s.rooms.length g.n))) ∧ Grow w w') := by
  refine enter_pure (args := [.agg #[.int .i64 g.a, .int .i64 g.b, .int .i64 g.need, .slice g.A g.ways.length g.c], .pointer (some ⟨b, 0, none⟩)]) [sl (fun b => b < w.heap.size) 1 enInt g.A g.ways, ownB b (cellsB 26 [.slice s.Ar s.rooms.length s.cr, .slice s.Ag s.gates.length s.cg, .slice s.As s.staff.length s.cs])] Try.func51 rfl (by rw [Try.ntmps51]; simp) (fun g hg2 => by
    rcases List.mem_cons.1 hg2 with rfl | hg2
    · exact ⟨hg, fun _ h => h⟩
    · rw [List.mem_singleton.1 hg2]; exact ⟨hb, fun i hi => by have : i = b := hi; subst this; exact (Array.getElem?_eq_some_iff.1 hb).1⟩) ?_
  refine cj_seq (cj_region ?_)
  refine oj_box rfl rfl rfl (fun b2 => ?_)
  refine oj_step (y_assign rfl) rfl rfl rfl ?_
  refine oj_nil ?_
  refine ej_th (cj_seq ?_)
  refine cj_regionG ?_
  refine gj_step (y_loadSN Try.isAgg26 Try.sizeOf26 rfl) rfl rfl rfl (gj_step (y_build (cs := [.slice s.Ar s.rooms.length s.cr, .slice s.Ag s.gates.length s.cg, .slice s.As s.staff.length s.cs, .int .i64 0]) st76 rfl (by kernel_rfl)) rfl rfl rfl (gj_step (y_loadN Try.isAgg69 Try.sizeOf69 rfl) rfl rfl rfl (?_)))
  refine gj_step (y_call Try.call52 rfl (fun w hp => k_gate s 0 g w hr hp.rd)) rfl rfl rfl ?_
  refine gj_step (y_not rfl) rfl rfl rfl (gj_step (y_assign rfl) rfl rfl rfl (?_))
  refine gj_nil ?_
  refine ej_th (cj_ret ?_)
  exact ej_ret1 rfl Try.results51 rfl (fun w' hp => ⟨rfl, hp.below⟩)

theorem k_Check (s : StrV) (w : World) (hs : StrRd w s) : Calls Try.prog 15 #[.agg #[.slice s.Ar s.rooms.length s.cr, .slice s.Ag s.gates.length s.cg, .slice s.As s.staff.length s.cs]] w (fun e w' => e = .returned (.int .i64 (strE s.s)) ∧ Grow w w') := by
  have hlr := hs.rooms.len
  have hlg := hs.gates.len
  have hls := hs.staff.len
  refine enter_pure (args := [.agg #[.slice s.Ar s.rooms.length s.cr, .slice s.Ag s.gates.length s.cg, .slice s.As s.staff.length s.cs]]) [sl (fun b => b < w.heap.size) 3 encRo s.Ar s.rooms, sl (fun b => b < w.heap.size) 4 encGa s.Ag s.gates, sl (fun b => b < w.heap.size) 1 enInt s.As s.staff] Try.func15 rfl (by rw [Try.ntmps15]; simp) (fun g hg => by simp at hg; rcases hg with rfl | rfl | rfl; exact ⟨hs.rooms, fun _ h => h⟩; exact ⟨hs.gates, fun _ h => h⟩; exact ⟨hs.staff, fun _ h => h⟩) ?_
  refine cj_seq (cj_region ?_)
  refine oj_box rfl rfl rfl (fun b1 => ?_)
  refine oj_step (y_assign rfl) rfl rfl rfl ?_
  refine oj_nil ?_
  refine ej_th (cj_seq (cj_seq ?_))
  refine cj_regionG ?_
  refine gj_step (y_fa0 fa26_0 rfl) rfl rfl rfl (gj_step (y_load1 Try.isAgg22 rfl rfl) rfl rfl rfl (gj_step (y_lenA Try.underlying22 rfl) rfl rfl rfl (?_)))
  refine gj_step (y_call Try.call46 rfl (fun w hp => k_within _ _ _ w)) rfl rfl rfl ?_
  refine gj_step (y_not rfl) rfl rfl rfl (gj_step (y_move rfl) rfl rfl rfl (?_))
  refine gj_g 4 10 14 rfl rfl rfl rfl (fun hg10 => gj_yes rfl rfl rfl (y_fa fa26_1 rfl) rfl rfl (gj_yes rfl rfl rfl (y_load1 Try.isAgg23 rfl rfl) rfl rfl (gj_yes rfl rfl rfl (y_lenA Try.underlying23 rfl) rfl rfl (gj_yes rfl rfl rfl (y_gtr rfl rfl) rfl rfl (gj_nil rfl))))) ?_
  refine gj_step (y_or rfl rfl rfl) rfl rfl rfl (gj_step (y_move rfl) rfl rfl rfl (?_))
  refine gj_g 5 16 21 rfl rfl rfl rfl (fun hg16 => gj_yes rfl rfl rfl (y_fa fa26_2 rfl) rfl rfl (gj_yes rfl rfl rfl (y_load1 Try.isAgg24 rfl rfl) rfl rfl (gj_yes rfl rfl rfl (y_lenA Try.underlying24 rfl) rfl rfl (gj_yes rfl rfl rfl (y_call Try.call46 rfl (fun w hp => k_within _ _ _ w)) rfl rfl (gj_yes rfl rfl rfl (y_not rfl) rfl rfl (gj_nil rfl)))))) ?_
  refine gj_step (y_or rfl rfl rfl) rfl rfl rfl (?_)
  refine gj_nil ?_
  refine ej_th ?_
  refine cj_cond rfl (fun h22 => ?_) (fun h22 => ?_)
  · have h22b := h22
    try simp only [sxb] at h22
    rw [str1_V] at h22b
    refine cj_seq ?_
    refine cj_regionG (gj_step (y_assign rfl) rfl rfl rfl (gj_nil ?_))
    refine ej_th (cj_ret (ej_then_ret ?_))
    refine ej_ret1 rfl Try.results15 rfl (fun w' hp => ⟨?_, hp.below⟩)
    rw [str_no1 (not_t h22b)]
  · have h22b := h22
    try simp only [sxb] at h22
    rw [str1_V] at h22b
    refine cj_skip (ej_th (cj_seq (cj_seq ?_)))
    refine cj_regionG (gj_step (y_fa0 fa26_0 rfl) rfl rfl rfl (gj_step (y_load1 Try.isAgg22 rfl rfl) rfl rfl rfl (gj_step (y_lenA Try.underlying22 rfl) rfl rfl rfl (gj_step (y_move rfl) rfl rfl rfl (gj_nil ?_)))))
    refine ej_th (cj_block ?_)
    refine cj_lpic (X := Nat) [(1, _), (24, _), (25, _)] (fun k => k ≤ s.rooms.length ∧ (s.rooms.drop k).all roomB = s.rooms.all roomB) (fun k => [(26, .int .i64 k)]) (fun k => s.rooms.length - k) 0 (⟨Nat.zero_le _, rfl⟩) ⟨rfl, rfl, rfl, rfl, trivial⟩ ?_
    rintro k ⟨hk, hsk⟩
    dsimp only [List.cons_append, List.nil_append]
    refine cj_seq ?_
    refine cj_regionG (gj_step (y_lss rfl rfl) rfl rfl rfl (gj_nil ?_))
    refine ej_th (cj_seq ?_)
    refine cj_cond rfl (fun h27 => ?_) (fun h27 => ?_)
    · have h27b := h27
      try simp only [sxb] at h27
      obtain ⟨r, hr⟩ : ∃ r, s.rooms[k]? = some r := ⟨_, List.getElem?_eq_getElem (by omega)⟩
      rw [all_drop roomB s.rooms k r hr] at hsk
      refine cj_skip (ej_th (cj_seq (cj_block (cj_seq (cj_region ?_)))))
      refine oj_step (y_ixR (reads_sl) Try.underlying22 Try.sizeOf71 rfl rfl (⟨by omega, by omega⟩)) rfl rfl rfl ?_
      refine oj_step (y_ldW (reads_sl) Try.isAgg71 Try.sizeOf71 rfl (hr) (fun _ => rfl)) rfl rfl rfl ?_
      refine oj_alloc Try.zeroValue71 rfl rfl (fun b4 => ?_)
      refine oj_store rfl rfl rfl rfl Try.sizeOf71 rfl ?_
      refine oj_nil ?_
      refine ej_th (cj_seq ?_)
      refine cj_regionG ?_
      refine gj_step (y_fa0 fa71_0 rfl) rfl rfl rfl (gj_step (y_load1 Try.isAgg3 rfl rfl) rfl rfl rfl (?_))
      refine gj_step (y_call Try.call46 rfl (fun w hp => k_within _ _ _ w)) rfl rfl rfl ?_
      refine gj_step (y_not rfl) rfl rfl rfl (gj_step (y_move rfl) rfl rfl rfl (?_))
      refine gj_g 4 34 38 rfl rfl rfl rfl (fun hg34 => gj_yes rfl rfl rfl (y_fa fa71_1 rfl) rfl rfl (gj_yes rfl rfl rfl (y_load1 Try.isAgg3 rfl rfl) rfl rfl (gj_yes rfl rfl rfl (y_call Try.call46 rfl (fun w hp => k_within _ _ _ w)) rfl rfl (gj_yes rfl rfl rfl (y_not rfl) rfl rfl (gj_nil rfl))))) ?_
      refine gj_step (y_or rfl rfl rfl) rfl rfl rfl (gj_step (y_move rfl) rfl rfl rfl (?_))
      refine gj_g 4 40 44 rfl rfl rfl rfl (fun hg40 => gj_yes rfl rfl rfl (y_fa fa71_2 rfl) rfl rfl (gj_yes rfl rfl rfl (y_load1 Try.isAgg3 rfl rfl) rfl rfl (gj_yes rfl rfl rfl (y_call Try.call47 rfl (fun w hp => k_set _ 8 w (by omega))) rfl rfl (gj_yes rfl rfl rfl (y_not rfl) rfl rfl (gj_nil rfl))))) ?_
      refine gj_step (y_or rfl rfl rfl) rfl rfl rfl (?_)
      refine gj_nil ?_
      refine ej_th ?_
      refine cj_cond rfl (fun h45 => ?_) (fun h45 => ?_)
      · have h45b := h45
        try simp only [sxb] at h45
        rw [room_V] at h45b
        refine cj_seq ?_
        refine cj_regionG (gj_step (y_assign rfl) rfl rfl rfl (gj_nil ?_))
        refine ej_th (cj_ret (ej_blk_ret (ej_then_ret (ej_then_ret (ej_blk_ret (ej_then_ret ?_))))))
        refine ej_ret1 rfl Try.results15 rfl (fun w' hp => ⟨?_, hp.below⟩)
        rw [str_noR]
        rw [← hsk, not_t h45b]; rfl
      · have h45b := h45
        try simp only [sxb] at h45
        rw [room_V] at h45b
        refine cj_skip (ej_blk (ej_th ?_))
        refine cj_regionG (gj_step (y_add rfl rfl (by omega)) rfl rfl rfl (gj_step (y_move rfl) rfl rfl rfl (gj_nil ?_)))
        exact ej_nx (k + 1) (by omega) ⟨by omega, by rw [← hsk, not_f h45b, Bool.true_and]⟩ ⟨rfl, rfl, rfl, rfl, trivial⟩
    · have h27b := h27
      try simp only [sxb] at h27
      refine cj_exit (ej_then_exit (ej_then_exit (ej_blk_hit (ej_th (cj_seq (cj_seq ?_))))))
      refine cj_regionG ?_
      refine gj_step (y_fa fa26_2 rfl) rfl rfl rfl (gj_step (y_load1 Try.isAgg24 rfl rfl) rfl rfl rfl (?_))
      refine gj_step (y_call Try.call48 rfl (fun w hp => k_ContI (s.staff) s.As s.cs 49 #[] (fun n => !(btw 0 n 255)) w hp.rd Try.call49 (fun x hx w1 hg => k_ck1 x w1))) rfl rfl rfl ?_
      refine gj_step (y_move rfl) rfl rfl rfl (?_)
      refine gj_g 4 50 54 rfl rfl rfl rfl (fun hg50 => gj_yes rfl rfl rfl (y_fa fa26_1 rfl) rfl rfl (gj_yes rfl rfl rfl (y_load1 Try.isAgg23 rfl rfl) rfl rfl (gj_yes rfl rfl rfl (y_makeFunc rfl rfl) rfl rfl (gj_yes rfl rfl rfl (y_call Try.call50 rfl (fun w hp => k_ContG s.gates s.Ag s.cg 51 #[.pointer (some ⟨b1, 0, none⟩)] (fun g => !(gateB s.rooms.length g.n)) w hp.rd Try.call51 (fun x hx w1 hg => k_ck2 s x b1 w1 (by omega) ((hs.ways x hx).mono (grow_trans hp.below hg)) ((hp.grow hg).own1)))) rfl rfl (gj_nil rfl))))) ?_
      refine gj_step (y_or rfl rfl rfl) rfl rfl rfl (?_)
      refine gj_nil ?_
      refine ej_th ?_
      refine cj_cond rfl (fun h55 => ?_) (fun h55 => ?_)
      · have h55b := h55
        try simp only [sxb] at h55
        rw [any_not, any_not] at h55b
        refine cj_seq ?_
        refine cj_regionG (gj_step (y_assign rfl) rfl rfl rfl (gj_nil ?_))
        refine ej_th (cj_ret (ej_then_ret ?_))
        refine ej_ret1 rfl Try.results15 rfl (fun w' hp => ⟨?_, hp.below⟩)
        cases hA : (s.staff.all fun n => btw 0 n 255) with
        | false => rw [str_noS hA]
        | true =>
          cases hB : (s.gates.all fun g => gateB s.rooms.length g.n) with
          | false => rw [str_noG hB]
          | true => rw [hA, hB] at h55b; cases h55b
      · have h55b := h55
        try simp only [sxb] at h55
        rw [any_not, any_not] at h55b
        refine cj_skip (ej_th (cj_seq ?_))
        refine cj_regionG (gj_step (y_assign rfl) rfl rfl rfl (gj_nil ?_))
        refine ej_th (cj_ret ?_)
        refine ej_ret1 rfl Try.results15 rfl (fun w' hp => ⟨?_, hp.below⟩)
        rw [Bool.or_eq_false_iff] at h55b
        rw [str_yes (not_f h22b) (by rw [← hsk, List.drop_of_length_le (by omega)]; rfl) (not_f h55b.1) (not_f h55b.2)]

end Go.Proofs.Ytomidcehahdmbaa
namespace Go.Proofs.Ytomidcehahdmbaa
open Go.Sx Go.RowKit
set_option maxRecDepth 20000
theorem fa76_1 : FieldIs Try.prog 76 1 3 1 false := ⟨⟨_, _, Try.underlying76, rfl, rfl, Try.sizeOf3, Try.isAgg3, by decide⟩⟩
end Go.Proofs.Ytomidcehahdmbaa
namespace Go.Proofs.Ytomidcehahdmbaa
open Go.Sx Go.RowKit
set_option maxRecDepth 20000

end Go.Proofs.Ytomidcehahdmbaa
namespace Go.Proofs.Ytomidcehahdmbaa
open Go.Sx Go.RowKit
set_option maxRecDepth 20000

end Go.Proofs.Ytomidcehahdmbaa
namespace Go.Proofs.Ytomidcehahdmbaa
open Go.Sx Go.RowKit
set_option maxRecDepth 20000

end Go.Proofs.Ytomidcehahdmbaa
namespace Go.Proofs.Ytomidcehahdmbaa
open Go.Sx Go.RowKit
set_option maxRecDepth 20000
theorem el24 : ElemIs Try.prog 24 3 1 8 := ⟨⟨_, (.int .i64 0), Try.underlying24, Try.type3, by kernel_rfl, by kernel_rfl, by kernel_rfl, by kernel_rfl, by decide⟩⟩
end Go.Proofs.Ytomidcehahdmbaa
namespace Go.Proofs.Ytomidcehahdmbaa
open Go.Sx Go.RowKit
set_option maxRecDepth 20000

end Go.Proofs.Ytomidcehahdmbaa
namespace Go.Proofs.Ytomidcehahdmbaa
open Go.Sx Go.RowKit
set_option maxRecDepth 20000

end Go.Proofs.Ytomidcehahdmbaa
namespace Go.Proofs.Ytomidcehahdmbaa
open Go.Sx Go.RowKit
set_option maxRecDepth 20000
theorem fa47_0 : FieldIs Try.prog 47 0 0 1 false := ⟨⟨_, _, Try.underlying47, rfl, rfl, Try.sizeOf3, Try.isAgg3, by decide⟩⟩
theorem fa52_0 : FieldIs Try.prog 52 0 0 1 false := ⟨⟨_, _, Try.underlying52, rfl, rfl, Try.sizeOf3, Try.isAgg3, by decide⟩⟩
theorem fa52_1 : FieldIs Try.prog 52 1 1 1 false := ⟨⟨_, _, Try.underlying52, rfl, rfl, Try.sizeOf3, Try.isAgg3, by decide⟩⟩
theorem fa52_2 : FieldIs Try.prog 52 2 2 1 false := ⟨⟨_, _, Try.underlying52, rfl, rfl, Try.sizeOf3, Try.isAgg3, by decide⟩⟩
theorem fa52_3 : FieldIs Try.prog 52 3 3 1 false := ⟨⟨_, _, Try.underlying52, rfl, rfl, Try.sizeOf3, Try.isAgg3, by decide⟩⟩
theorem fa52_4 : FieldIs Try.prog 52 4 4 1 false := ⟨⟨_, _, Try.underlying52, rfl, rfl, Try.sizeOf3, Try.isAgg3, by decide⟩⟩
theorem fa52_5 : FieldIs Try.prog 52 5 5 1 false := ⟨⟨_, _, Try.underlying52, rfl, rfl, Try.sizeOf3, Try.isAgg3, by decide⟩⟩
theorem fa52_6 : FieldIs Try.prog 52 6 6 1 false := ⟨⟨_, _, Try.underlying52, rfl, rfl, Try.sizeOf3, Try.isAgg3, by decide⟩⟩
theorem fa52_7 : FieldIs Try.prog 52 7 7 1 false := ⟨⟨_, _, Try.underlying52, rfl, rfl, Try.sizeOf3, Try.isAgg3, by decide⟩⟩
theorem fa95_0 : FieldIs Try.prog 95 0 0 3 true := ⟨⟨_, _, Try.underlying95, rfl, rfl, Try.sizeOf26, Try.isAgg26, by decide⟩⟩
theorem fa95_1 : FieldIs Try.prog 95 1 3 160 true := ⟨⟨_, _, Try.underlying95, rfl, rfl, Try.sizeOf48, Try.isAgg48, by decide⟩⟩
theorem st114 : StructIs Try.prog 114 [(0, 1)] [.int .i64 0] := ⟨⟨_, Try.underlying114, fun w => by simp [Try.sizeOf27], Try.zeroValue114⟩⟩
end Go.Proofs.Ytomidcehahdmbaa
namespace Go.Proofs.Ytomidcehahdmbaa
open Go.Sx Go.RowKit
set_option maxRecDepth 20000
theorem fa95_3 : FieldIs Try.prog 95 3 195 1 false := ⟨⟨_, _, Try.underlying95, rfl, rfl, Try.sizeOf92, Try.isAgg92, by decide⟩⟩
end Go.Proofs.Ytomidcehahdmbaa
namespace Go.Proofs.Ytomidcehahdmbaa
open Go.Sx Go.RowKit
set_option maxRecDepth 20000
theorem fa47_1 : FieldIs Try.prog 47 1 1 1 false := ⟨⟨_, _, Try.underlying47, rfl, rfl, Try.sizeOf3, Try.isAgg3, by decide⟩⟩
theorem fa47_2 : FieldIs Try.prog 47 2 2 1 false := ⟨⟨_, _, Try.underlying47, rfl, rfl, Try.sizeOf3, Try.isAgg3, by decide⟩⟩
theorem fa95_2 : FieldIs Try.prog 95 2 163 32 true := ⟨⟨_, _, Try.underlying95, rfl, rfl, Try.sizeOf93, Try.isAgg93, by decide⟩⟩
theorem st47 : StructIs Try.prog 47 [(0, 1), (1, 1), (2, 1), (3, 1), (4, 1)] [.int .i64 0, .int .i64 0, .int .i64 0, .int .i64 0, .int .i64 0] := ⟨⟨_, Try.underlying47, fun w => by simp [Try.sizeOf3], Try.zeroValue47⟩⟩
end Go.Proofs.Ytomidcehahdmbaa
namespace Go.Proofs.Ytomidcehahdmbaa
open Go.Sx Go.RowKit
set_option maxRecDepth 20000
theorem fa114_0 : FieldIs Try.prog 114 0 0 1 false := ⟨⟨_, _, Try.underlying114, rfl, rfl, Try.sizeOf27, Try.isAgg27, by decide⟩⟩
end Go.Proofs.Ytomidcehahdmbaa
namespace Go.Proofs.Ytomidcehahdmbaa
open Go.Sx Go.RowKit
set_option maxRecDepth 20000
theorem fa47_3 : FieldIs Try.prog 47 3 3 1 false := ⟨⟨_, _, Try.underlying47, rfl, rfl, Try.sizeOf3, Try.isAgg3, by decide⟩⟩
theorem fa47_4 : FieldIs Try.prog 47 4 4 1 false := ⟨⟨_, _, Try.underlying47, rfl, rfl, Try.sizeOf3, Try.isAgg3, by decide⟩⟩
end Go.Proofs.Ytomidcehahdmbaa
namespace Go.Proofs.Ytomidcehahdmbaa
open Go.Sx Go.RowKit
set_option maxRecDepth 20000
theorem st95 : StructIs Try.prog 95 [(0, 3), (3, 160), (163, 32), (195, 1)] [.slice none 0 0, .slice none 0 0, .slice none 0 0, .int .i64 0, .int .i64 0, .int .i64 0, .int .i64 0, .int .i64 0, .int .i64 0, .int .i64 0, .int .i64 0, .int .i64 0, .int .i64 0, .int .i64 0, .int .i64 0, .int .i64 0, .int .i64 0, .int .i64 0, .int .i64 0, .int .i64 0, .int .i64 0, .int .i64 0, .int .i64 0, .int .i64 0, .int .i64 0, .int .i64 0, .int .i64 0, .int .i64 0, .int .i64 0, .int .i64 0, .int .i64 0, .int .i64 0, .int .i64 0, .int .i64 0, .int .i64 0, .int .i64 0, .int .i64 0, .int .i64 0, .int .i64 0, .int .i64 0, .int .i64 0, .int .i64 0, .int .i64 0, .int .i64 0, .int .i64 0, .int .i64 0, .int .i64 0, .int .i64 0, .int .i64 0, .int .i64 0, .int .i64 0, .int .i64 0, .int .i64 0, .int .i64 0, .int .i64 0, .int .i64 0, .int .i64 0, .int .i64 0, .int .i64 0, .int .i64 0, .int .i64 0, .int .i64 0, .int .i64 0, .int .i64 0, .int .i64 0, .int .i64 0, .int .i64 0, .int .i64 0, .int .i64 0, .int .i64 0, .int .i64 0, .int .i64 0, .int .i64 0, .int .i64 0, .int .i64 0, .int .i64 0, .int .i64 0, .int .i64 0, .int .i64 0, .int .i64 0, .int .i64 0, .int .i64 0, .int .i64 0, .int .i64 0, .int .i64 0, .int .i64 0, .int .i64 0, .int .i64 0, .int .i64 0, .int .i64 0, .int .i64 0, .int .i64 0, .int .i64 0, .int .i64 0, .int .i64 0, .int .i64 0, .int .i64 0, .int .i64 0, .int .i64 0, .int .i64 0, .int .i64 0, .int .i64 0, .int .i64 0, .int .i64 0, .int .i64 0, .int .i64 0, .int .i64 0, .int .i64 0, .int .i64 0, .int .i64 0, .int .i64 0, .int .i64 0, .int .i64 0, .int .i64 0, .int .i64 0, .int .i64 0, .int .i64 0, .int .i64 0, .int .i64 0, .int .i64 0, .int .i64 0, .int .i64 0, .int .i64 0, .int .i64 0, .int .i64 0, .int .i64 0, .int .i64 0, .int .i64 0, .int .i64 0, .int .i64 0, .int .i64 0, .int .i64 0, .int .i64 0, .int .i64 0, .int .i64 0, .int .i64 0, .int .i64 0, .int .i64 0, .int .i64 0, .int .i64 0, .int .i64 0, .int .i64 0, .int .i64 0, .int .i64 0, .int .i64 0, .int .i64 0, .int .i64 0, .int .i64 0, .int .i64 0, .int .i64 0, .int .i64 0, .int .i64 0, .int .i64 0, .int .i64 0, .int .i64 0, .int .i64 0, .int .i64 0, .int .i64 0, .int .i64 0, .int .i64 0, .int .i64 0, .int .i64 0, .int .i64 0, .bool false, .bool false, .bool false, .bool false, .bool false, .bool false, .bool false, .bool false, .bool false, .bool false, .bool false, .bool false, .bool false, .bool false, .bool false, .bool false, .bool false, .bool false, .bool false, .bool false, .bool false, .bool false, .bool false, .bool false, .bool false, .bool false, .bool false, .bool false, .bool false, .bool false, .bool false, .bool false, .map none] := ⟨⟨_, Try.underlying95, fun w => by simp [Try.sizeOf26, Try.sizeOf48, Try.sizeOf92, Try.sizeOf93], Try.zeroValue95⟩⟩
end Go.Proofs.Ytomidcehahdmbaa
namespace Go.Proofs.Ytomidcehahdmbaa
open Go.Sx Go.RowKit
set_option maxRecDepth 20000

end Go.Proofs.Ytomidcehahdmbaa
namespace Go.Proofs.Ytomidcehahdmbaa
open Go.Sx Go.RowKit
set_option maxRecDepth 20000

end Go.Proofs.Ytomidcehahdmbaa
namespace Go.Proofs.Ytomidcehahdmbaa
open Go.Sx Go.RowKit
set_option maxRecDepth 20000
theorem st26 : StructIs Try.prog 26 [(0, 1), (1, 1), (2, 1)] [.slice none 0 0, .slice none 0 0, .slice none 0 0] := ⟨⟨_, Try.underlying26, fun w => by simp [Try.sizeOf22, Try.sizeOf23, Try.sizeOf24], Try.zeroValue26⟩⟩
theorem st52 : StructIs Try.prog 52 [(0, 1), (1, 1), (2, 1), (3, 1), (4, 1), (5, 1), (6, 1), (7, 1)] [.int .i64 0, .int .i64 0, .int .i64 0, .int .i64 0, .int .i64 0, .int .i64 0, .int .i64 0, .int .i64 0] := ⟨⟨_, Try.underlying52, fun w => by simp [Try.sizeOf3], Try.zeroValue52⟩⟩
theorem st69 : StructIs Try.prog 69 [(0, 1), (1, 1), (2, 1), (3, 1)] [.int .i64 0, .int .i64 0, .int .i64 0, .slice none 0 0] := ⟨⟨_, Try.underlying69, fun w => by simp [Try.sizeOf24, Try.sizeOf3], Try.zeroValue69⟩⟩
theorem st71 : StructIs Try.prog 71 [(0, 1), (1, 1), (2, 1)] [.int .i64 0, .int .i64 0, .int .i64 0] := ⟨⟨_, Try.underlying71, fun w => by simp [Try.sizeOf3], Try.zeroValue71⟩⟩
end Go.Proofs.Ytomidcehahdmbaa
namespace Go.Proofs.Ytomidcehahdmbaa
open Go.Sx Go.RowKit
set_option maxRecDepth 20000
theorem fa102_0 : FieldIs Try.prog 102 0 0 3 true := ⟨⟨_, _, Try.underlying102, rfl, rfl, Try.sizeOf26, Try.isAgg26, by decide⟩⟩
theorem fa102_1 : FieldIs Try.prog 102 1 3 1 false := ⟨⟨_, _, Try.underlying102, rfl, rfl, Try.sizeOf3, Try.isAgg3, by decide⟩⟩
theorem fa102_2 : FieldIs Try.prog 102 2 4 1 false := ⟨⟨_, _, Try.underlying102, rfl, rfl, Try.sizeOf3, Try.isAgg3, by decide⟩⟩
theorem st102 : StructIs Try.prog 102 [(0, 3), (3, 1), (4, 1)] [.slice none 0 0, .slice none 0 0, .slice none 0 0, .int .i64 0, .int .i64 0] := ⟨⟨_, Try.underlying102, fun w => by simp [Try.sizeOf26, Try.sizeOf3], Try.zeroValue102⟩⟩
end Go.Proofs.Ytomidcehahdmbaa
namespace Go.Proofs.Ytomidcehahdmbaa
open Go.Sx Go.RowKit
set_option maxRecDepth 20000

end Go.Proofs.Ytomidcehahdmbaa
namespace Go.Proofs.Ytomidcehahdmbaa
open Go.Sx Go.RowKit
set_option maxRecDepth 20000
theorem eq47 (a0 b0 : Int) (a1 b1 : Int) (a2 b2 : Int) (a3 b3 : Int) (a4 b4 : Int) (x y : Operand) (w : World) : (do eqGuard .eql 47 x y (.agg #[.int .i64 a0, .int .i64 a1, .int .i64 a2, .int .i64 a3, .int .i64 a4]) (.agg #[.int .i64 b0, .int .i64 b1, .int .i64 b2, .int .i64 b3, .int .i64 b4]); binOp .eql 47 (.agg #[.int .i64 a0, .int .i64 a1, .int .i64 a2, .int .i64 a3, .int .i64 a4]) (.agg #[.int .i64 b0, .int .i64 b1, .int .i64 b2, .int .i64 b3, .int .i64 b4]) : Sem Value).run Try.prog w = .ok (.bool ((a0 == b0) && (a1 == b1) && (a2 == b2) && (a3 == b3) && (a4 == b4))) w := by
  simp [go_sem, Try.eqGuardType47, Try.stoodInHeld47, Try.underlying47, Try.underlying3]
  try ((repeat' split) <;> simp_all)
end Go.Proofs.Ytomidcehahdmbaa
