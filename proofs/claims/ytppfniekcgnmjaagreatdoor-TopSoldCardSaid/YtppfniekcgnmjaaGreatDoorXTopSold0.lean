/- Texts of ours, joined: 25 of them. Conditions: none. -/
import Derived.Test.YtppfniekcgnmjaaGreatDoorZe
import Derived.Laws.Cover3
import Derived.Recover
import Derived.WalkKit
import Derived.Test.YtppfniekcgnmjaaGreatDoorProg
import Derived.Laws.StructEq
namespace Go.Sx
open Go.RowKit
theorem y_eqlNil {C : Cx} {L : Regs} {O S : List Fact} {dst : Option Tmp} {ty : TypeId} {pos : String} {aft : Array Edge} {gu : Option (Nat × Bool)} {t t' : TypeId} {x y : Operand} {e : TypeId} {A : Option Addr} {n c : Nat} (ht : C.P.underlying t = some (.slice e)) (hx : val L x = some (.slice A n c)) (hy : val L y = some (.slice none 0 0)) :
    Yi C ⟨dst, .binOp .eql t x y t', ty, pos, aft, gu⟩ L O S (.bool A.isNone) :=
  yi_val (by intro c h; cases h) fun a w hr _ => by
    have h := run_equal_slice_nil w t e A n c ht
    have h2 : (binOp .eql t (.slice A n c) (.slice none 0 0)).run C.P w = .ok (.bool A.isNone) w := by
      simp only [binOp]
      simp [h]
    simp [execOp, hr.val hx, hr.val hy, eqGuard, h2]
/-- One less than a number that is not 0. -/
theorem y_pred {C : Cx} {L : Regs} {O S : List Fact} {dst : Option Tmp} {ty : TypeId} {pos : String} {aft : Array Edge} {gu : Option (Nat × Bool)} {t t' : TypeId} {x y : Operand} {m : Nat} (hx : val L x = some (.int .i64 (m : Nat))) (hy : val L y = some (.int .i64 1)) (h1 : 1 ≤ m) (h : m ≤ 9223372036854775807) :
    Yi C ⟨dst, .binOp .sub t x y t', ty, pos, aft, gu⟩ L O S (.int .i64 ((m - 1 : Nat) : Int)) := by
  have := y_sub (C := C) (O := O) (S := S) (dst := dst) (t := t) (t' := t') (ty := ty) (pos := pos) (aft := aft) (gu := gu) hx hy (by omega)
  rwa [show ((m : Nat) : Int) - 1 = ((m - 1 : Nat) : Int) by omega] at this
end Go.Sx
namespace Go.Sx
open Go.RowKit

section
variable {C : Cx} {Q : Exit → Act → World → Prop} {L : Regs} {O S : List Fact} {ops : Array Oper} {rest : List Oper} {ty : TypeId} {pos : String} {aft : Array Edge} {dst : Option Tmp} {gu : Option (Nat × Bool)} {t : TypeId} {x y : Operand}
theorem zero_one (z : Value) (n : Nat) : Builtin.zeroCells #[z] n = (List.replicate n z).toArray := by
  refine Array.ext (by simp [Builtin.zeroCells]) fun i h1 h2 => ?_
  simp [Builtin.zeroCells, Nat.mod_one]
/-- An element of an array that lies in a register, a cell each. -/
theorem y_indexA {e n : Nat} {i : Int} {k : IntKind} {cs : List Value} {v : Value} (ht : C.P.underlying t = some (.array n e)) (hs : ∀ w, (sizeOf e).run C.P w = .ok 1 w) (ha : ∀ w, (isAgg e).run C.P w = .ok false w) (hx : val L x = some (.agg cs.toArray)) (hy : val L y = some (.int k i)) (hi : 0 ≤ i ∧ i < n) (hv : cs[i.toNat]? = some v) :
    Yi C ⟨dst, .index t x y, ty, pos, aft, gu⟩ L O S v :=
  yi_val (by intro c h; cases h) fun a w hr _ => by
    simp [execOp, hr.val hx, hr.val hy, Instr.index, asIntOf, run_underlying ht, hi, part, hs, ha, hv]
/-- The elements behind the first i are cleared, and are known no longer. -/
theorem oj_clearCut {α : Type} {e c i : Nat} {enc : α → List Value} {A : Option Addr} {xs : List α} {z : Value} {O' : List Fact} (hu : C.P.underlying t = some (.slice e)) (hz : ∀ w, (zeroValue e).run C.P w = .ok z w) (hzc : z.cells = #[z]) (hone : z.oneCell' = true) (he : ∀ x, (enc x).length = 1)
    (hx : val L x = some (.slice (subA A c i 1) ((xs.take xs.length).drop i).length (c - i))) (hi : i ≤ xs.length) (hA : A = none → c = 0) [hup : UpdOw O A e 1 enc c xs (ow e 1 enc A c (xs.take i)) O'] (k' : OJ C ops Q rest L O' S) :
    OJ C ops Q (⟨none, .call ⟨.builtin .clear, #[x], #[t]⟩, ty, pos, aft, none⟩ :: rest) L O S := by
  intro a w hr hp
  unfold wpListIn
  rw [if_pos (by simp [Region.wanted])]
  refine ⟨fun _ _ => trivial, ?_⟩
  rw [Oper.semAt_eq _ _ _ (by intro c h; cases h)]
  have hP := (hp.own _ hup.rep.mem).1
  have hlen : ((xs.take xs.length).drop i).length = xs.length - i := by simp
  rw [hlen] at hx
  have hcut : ∀ w' : World, (ow e 1 enc A c (xs.take i ++ xs.drop i)).P w' → (ow e 1 enc A c (xs.take i)).P w' := fun w' h => ow_cut he (fun hn => by
    have hcl : xs.length ≤ c := by
      rcases (show w.ownsRow 0 e 1 (.slice A xs.length c) xs.length (xs.flatMap enc) from hP).2 with ⟨h3, _⟩ | ⟨g, cap, cur, hv, _, _, h5, _⟩
      · injection h3 with _ h4 _; omega
      · injection hv with _ _ h6; omega
    have := hA hn
    exact ⟨List.eq_nil_of_length_eq_zero (by simp; omega), this⟩) h
  by_cases hn : xs.length - i = 0
  · have hrun : (execOp a.eval ⟨none, .call ⟨.builtin .clear, #[x], #[t]⟩, ty, pos, aft, none⟩).run C.P w = .ok (.value (.tuple #[])) w := by
      rw [hn] at hx
      cases hA2 : subA A c i 1 <;> simp [execOp, resolve, invoke, builtin, Builtin.clear_, hr.val hx, run_underlying hu, hA2]
    rw [hrun]
    refine k' _ w hr ?_
    have he1 : xs.take i = xs := List.take_of_length_le (by omega)
    refine hp.write hup.rep rfl rfl rfl (Nat.le_refl _) (fun _ _ _ => rfl) (by rw [he1]; exact hP) (fun b hb => ?_)
    rw [he1] at hb
    exact ⟨((hp.own _ hup.rep.mem).2 b hb).1, .inl hb⟩
  · have hP2 : w.ownsRow 0 e 1 (.slice A xs.length c) xs.length (xs.flatMap enc) := hP
    rcases hP2.2 with ⟨h3, _⟩ | ⟨g, cap, cur, hv, h3, h4, h5, h6, h7, h8⟩
    · injection h3 with _ h4 _; omega
    · injection hv with hA1 _ hcap
      subst hA1
      subst hcap
      have hsub : subA (some ⟨g, 0, none⟩) c i 1 = some ⟨g, i, none⟩ := by
        unfold subA
        rw [if_neg (by omega)]
        simp [addr_add]
      rw [hsub] at hx
      have hcur : w.heap[g]? = some (.cells cur.toList.toArray e (0, 0)) := by rw [h4]
      obtain ⟨w', cs2, g1, g2, g3, g4, g5, g6, g7, g8, g9⟩ := run_storeCells C.P (List.replicate (xs.length - i) z) w g i 0 e cur.toList hcur (by simp [hone]) (by simp only [List.length_replicate, Array.length_toList]; omega)
      have hrun : (execOp a.eval ⟨none, .call ⟨.builtin .clear, #[x], #[t]⟩, ty, pos, aft, none⟩).run C.P w = .ok (.value (.tuple #[])) w' := by
        have hnz : ¬ xs.length - i = 0 := hn
        obtain ⟨m, hm⟩ : ∃ m, xs.length - i = m + 1 := ⟨xs.length - i - 1, by omega⟩
        have g1' : (storeCells ⟨g, i, none⟩ (List.replicate (m + 1) z) 0).run C.P w = .ok () w' := by rw [← hm]; exact g1
        rw [hm] at hx
        simp [execOp, resolve, invoke, builtin, Builtin.clear_, hr.val hx, run_underlying hu, hz, hzc, zero_one, g1']
      rw [hrun]
      refine k' _ w' hr ?_
      have hcs : (xs.take i).flatMap enc = (xs.flatMap enc).take i := by
        have h9 : xs.flatMap enc = (xs.take i).flatMap enc ++ (xs.drop i).flatMap enc := by rw [← List.flatMap_append, List.take_append_drop]
        have h10 : ((xs.take i).flatMap enc).length = i := by rw [flatMap_len enc 1 he, List.length_take]; omega
        rw [h9, List.take_append_of_le_length (Nat.le_of_eq h10.symm)]
        exact (List.take_of_length_le (Nat.le_of_eq h10)).symm
      have hli : (xs.take i).length = i := by simp; omega
      have hnew : w'.ownsRow 0 e 1 (.slice (some ⟨g, 0, none⟩) (xs.take i).length c) (xs.take i).length ((xs.take i).flatMap enc) := by
        refine ⟨by rw [flatMap_len enc 1 he], .inr ⟨g, c, cs2.toArray, rfl, h3, g2, by rw [hli]; omega, h6, by simp only [List.size_toArray]; rw [g4]; simpa using h7, ?_⟩⟩
        rw [hcs, ← h8, hli]
        refine List.ext_getElem? fun j => ?_
        simp only [List.getElem?_take, Nat.mul_one]
        by_cases hj : j < i
        · rw [if_pos hj, if_pos hj, if_pos (by omega), g3 j, if_neg (by omega)]
        · rw [if_neg hj, if_neg hj]
      refine hp.write hup.rep g6 g7 g8 (by omega) (fun c1 _ hc1 => g5 c1 (fun e => hc1 (by rw [e]; rfl))) hnew (fun c1 hc1 => ⟨?_, .inl hc1⟩)
      have h9 : some g = some c1 := hc1
      injection h9 with h9
      rw [g9, ← h9]
      exact (Array.getElem?_eq_some_iff.1 h4).1
/-- An element's place in a slice that is one block: at a number that is known. -/
theorem y_ixL {s e n b N c : Nat} {i : Int} {k : IntKind} (k' : Nat) (hu : C.P.underlying s = some (.slice e)) (hs : ∀ w, (sizeOf e).run C.P w = .ok n w) (hx : val L x = some (.slice (some ⟨b, 0, none⟩) N c)) (hy : val L y = some (.int k i)) (hi : 0 ≤ i ∧ i < N) (hk : i.toNat * n = k') :
    Yi C ⟨dst, .indexAddr s x y, ty, pos, aft, gu⟩ L O S (.pointer (some ⟨b, k', none⟩)) := by
  have h := y_ix (C := C) (O := O) (S := S) (dst := dst) (ty := ty) (pos := pos) (aft := aft) (gu := gu) hu hs hx hy hi (by simp)
  have e : at_ (some (⟨b, 0, none⟩ : Addr)) (i.toNat * n) = ⟨b, k', none⟩ := by
    show (⟨b, 0, none⟩ : Addr).add (i.toNat * n) = _
    rw [addr_add, hk]; simp
  rw [e] at h
  exact h
theorem cj_condT {c : Operand} {x y : Code} {t : Bool} (hc : val L c = some (.bool t)) (ht : t = true) (h : CJ C x Q L O S) : CJ C (.cond c x y) Q L O S :=
  cj_cond hc (fun _ => h) (fun hf => by rw [ht] at hf; cases hf)
theorem cj_condF {c : Operand} {x y : Code} {t : Bool} (hc : val L c = some (.bool t)) (ht : t = false) (h : CJ C y Q L O S) : CJ C (.cond c x y) Q L O S :=
  cj_cond hc (fun hf => by rw [ht] at hf; cases hf) (fun _ => h)
/-- A slice is made, of so many zeros. -/
theorem oj_makeSliceC {e d n : Nat} {i : TypeInfo} {z : Value} (cs : List Value) (ht : C.P.underlying t = some (.slice e)) (hi : C.P.info? e = some i) (hz : i.zero = some z) (hcs : madeCells z.cells (n * z.cells.size) = cs.toArray) (hx : val L x = some (.int .i64 (n : Nat))) (hy : val L y = some (.int .i64 (n : Nat)))
    (hb : i.bytes * n ≤ 281474976710656) (h63 : n ≤ 9223372036854775807) (hcl : z.cells.size = i.size) (hdN : Nat.blt d C.N = true) (k : ∀ b, OJ C ops Q rest ((d, .slice (some ⟨b, 0, none⟩) n n) :: L) (ownB b (cellsB e cs) :: O) S) :
    OJ C ops Q (⟨some d, .makeSlice t x y, ty, pos, aft, none⟩ :: rest) L O S :=
  oj_new (by intro c h; cases h) rfl rfl hdN (cellsB e cs) (fun b => .slice (some ⟨b, 0, none⟩) n n) (fun a w hr _ => by
    have hb2 : (i.bytes : Int) * (n : Int) ≤ 281474976710656 := by
      have h0 : ((i.bytes * n : Nat) : Int) ≤ 281474976710656 := by omega
      rwa [Int.natCast_mul] at h0
    have h := run_make (P := C.P) w t e i z ht hi hz .i64 .i64 n n (by omega) (Int.le_refl _) hb2 (by omega)
    simp only [Int.toNat_natCast, ← hcl, hcs] at h
    simp only [execOp, hr.val hx, hr.val hy, Sem.run_bind, h, Result.andThen_ok]
    rfl) k
/-- What was laid as a literal, and is not handed on as one's own, is apart from what is. -/
theorem lit_apart {F : Nat → Prop} {w0 w : World} {Os R : List Fact} {b : Nat} {ob : Obj} (hp : Hp F w0 O S w) (hT : Takes O Os R) [h : HasB R b ob] {o : Fact} (ho : o ∈ Os) (hob : o.fp b) : False :=
  ((hp.ownR hT _ h.mem).2 b rfl).2 o ho hob
end
end Go.Sx
namespace Go.Sx
open Go.RowKit

section
variable {C : Cx} {Q : Exit → Act → World → Prop} {L : Regs} {O S : List Fact} {ops : Array Oper} {rest : List Oper} {ty : TypeId} {pos : String} {aft : Array Edge} {dst : Option Tmp} {gu : Option (Nat × Bool)} {t t' : TypeId} {x y : Operand}
/-! ### Bits -/
theorem nat_bv (m : Nat) (hm : m ≤ 9223372036854775807) : (BitVec.ofInt 64 (m : Int)).toNat = m := by rw [BitVec.toNat_ofInt]; omega
theorem or_nat (m n : Nat) (hm : m < 2 ^ 62) (hn : n < 2 ^ 62) : IntKind.i64.wrap ((BitVec.ofInt 64 (m : Int) ||| BitVec.ofInt 64 (n : Int)).toNat : Int) = ((m ||| n : Nat) : Int) := by
  have h : (BitVec.ofInt 64 (m : Int) ||| BitVec.ofInt 64 (n : Int)).toNat = m ||| n := by
    rw [BitVec.toNat_or, nat_bv m (by omega), nat_bv n (by omega)]
  have hlt : m ||| n < 2 ^ 62 := Nat.or_lt_two_pow hm hn
  rw [h]; exact IntWalk.i64_in _ (by omega)
theorem y_orN {m n : Nat} (hx : val L x = some (.int .i64 (m : Nat))) (hy : val L y = some (.int .i64 (n : Nat))) (hm : m < 2 ^ 62) (hn : n < 2 ^ 62) : Yi C ⟨dst, .binOp .or t x y t', ty, pos, aft, gu⟩ L O S (.int .i64 ((m ||| n : Nat) : Int)) :=
  yi_val (by intro c h; cases h) fun a w hr _ => by
    have e : binOp .or t (.int .i64 (m : Int)) (.int .i64 (n : Int)) = pure (.int .i64 ((m ||| n : Nat) : Int)) := by
      unfold binOp
      simp only [ne_eq, not_true_eq_false, if_false]
      exact congrArg (fun z => (pure (Value.int .i64 z) : Sem Value)) (or_nat m n hm hn)
    simp [execOp, hr.val hx, hr.val hy, eqGuard, e]
theorem andNot_nat (m n : Nat) (hm : m ≤ 9223372036854775807) (hn : n ≤ 9223372036854775807) : IntKind.i64.wrap ((BitVec.ofInt 64 (m : Int) &&& ~~~(BitVec.ofInt 64 (n : Int))).toNat : Int) = ((m ^^^ (m &&& n) : Nat) : Int) := by
  have h : (BitVec.ofInt 64 (m : Int) &&& ~~~(BitVec.ofInt 64 (n : Int))).toNat = m ^^^ (m &&& n) := by
    refine Nat.eq_of_testBit_eq fun i => ?_
    rw [Nat.testBit_xor, Nat.testBit_and, BitVec.testBit_toNat, BitVec.getLsbD_and, BitVec.getLsbD_not]
    have h1 : (BitVec.ofInt 64 (m : Int)).getLsbD i = m.testBit i := by rw [← BitVec.testBit_toNat, nat_bv m hm]
    have h2 : (BitVec.ofInt 64 (n : Int)).getLsbD i = n.testBit i := by rw [← BitVec.testBit_toNat, nat_bv n hn]
    rw [h1, h2]
    by_cases hi : i < 64
    · rw [decide_eq_true hi]; cases m.testBit i <;> cases n.testBit i <;> rfl
    · have : m < 2 ^ i := Nat.lt_of_lt_of_le (show m < 2 ^ 64 by omega) (Nat.pow_le_pow_right (by decide) (by omega))
      rw [Nat.testBit_lt_two_pow this]; simp
  have hle : m ^^^ (m &&& n) ≤ m := by
    have hsub : (m ^^^ (m &&& n)) &&& m = m ^^^ (m &&& n) := Nat.eq_of_testBit_eq fun i => by
      rw [Nat.testBit_and, Nat.testBit_xor, Nat.testBit_and]; cases m.testBit i <;> cases n.testBit i <;> rfl
    rw [← hsub]; exact Nat.and_le_right
  rw [h]; exact IntWalk.i64_in _ (by omega)
theorem y_andNotN {m n : Nat} (hx : val L x = some (.int .i64 (m : Nat))) (hy : val L y = some (.int .i64 (n : Nat))) (hm : m ≤ 9223372036854775807) (hn : n ≤ 9223372036854775807) : Yi C ⟨dst, .binOp .andNot t x y t', ty, pos, aft, gu⟩ L O S (.int .i64 ((m ^^^ (m &&& n) : Nat) : Int)) :=
  yi_val (by intro c h; cases h) fun a w hr _ => by
    have e : binOp .andNot t (.int .i64 (m : Int)) (.int .i64 (n : Int)) = pure (.int .i64 ((m ^^^ (m &&& n) : Nat) : Int)) := by
      unfold binOp
      simp only [ne_eq, not_true_eq_false, if_false]
      exact congrArg (fun z => (pure (Value.int .i64 z) : Sem Value)) (andNot_nat m n hm hn)
    simp [execOp, hr.val hx, hr.val hy, eqGuard, e]
theorem y_shl1I {n : Int} (hx : val L x = some (.int .i64 1)) (hy : val L y = some (.int .i64 n)) (h0 : 0 ≤ n) (hn : n ≤ 62) : Yi C ⟨dst, .binOp .shl t x y t', ty, pos, aft, gu⟩ L O S (.int .i64 ((2 ^ n.toNat : Nat) : Int)) := by
  have h : val L y = some (.int .i64 (n.toNat : Nat)) := by rw [hy, Int.toNat_of_nonneg h0]
  exact y_shl1 hx h (by omega)
theorem y_orI {m n : Int} (hx : val L x = some (.int .i64 m)) (hy : val L y = some (.int .i64 n)) (hm : 0 ≤ m ∧ m < 4611686018427387904) (hn : 0 ≤ n ∧ n < 4611686018427387904) : Yi C ⟨dst, .binOp .or t x y t', ty, pos, aft, gu⟩ L O S (.int .i64 ((m.toNat ||| n.toNat : Nat) : Int)) := by
  have h1 : val L x = some (.int .i64 (m.toNat : Nat)) := by rw [hx, Int.toNat_of_nonneg hm.1]
  have h2 : val L y = some (.int .i64 (n.toNat : Nat)) := by rw [hy, Int.toNat_of_nonneg hn.1]
  exact y_orN h1 h2 (by omega) (by omega)
theorem y_shrI {m : Nat} {n : Int} (hx : val L x = some (.int .i64 (m : Nat))) (hy : val L y = some (.int .i64 n)) (h0 : 0 ≤ n) (hn : n ≤ 64) : Yi C ⟨dst, .binOp .shr t x y t', ty, pos, aft, gu⟩ L O S (.int .i64 ((m / 2 ^ n.toNat : Nat) : Int)) := by
  have h : val L y = some (.int .i64 (n.toNat : Nat)) := by rw [hy, Int.toNat_of_nonneg h0]
  exact y_shr hx h (by omega)
/-! ### Panics -/
theorem ej_then_pan {K : Act → World → Prop} {ch : List PanicEntry} (h : EJ C Q (.panic ch) L O S) : EJ C (Exit.then K Q) (.panic ch) L O S := h
theorem ej_blk_pan {id : Nat} {ch : List PanicEntry} (h : EJ C Q (.panic ch) L O S) : EJ C (Exit.inBlock id Q) (.panic ch) L O S := h
theorem ej_noGoto_pan {ch : List PanicEntry} (h : EJ C Q (.panic ch) L O S) : EJ C (Exit.noGoto Q) (.panic ch) L O S := h
/-- Out of a region that draws its order: what the temporaries hold is not known. -/
theorem ej_np_pan {K : Act → World → Prop} {ch : List PanicEntry} (h : EJ C Q (.panic ch) [] O S) : EJ C (NP C Q K) (.panic ch) L O S :=
  fun _ w _ hp a' hd hs => h a' w ⟨hd, hs, fun _ _ h => by cases h⟩ hp
theorem ej_pan {fn : Func} {R : Ending → World → Prop} {ch : List PanicEntry} (hD : C.D = []) (hR : ∀ w, Hp C.F C.w0 O S w → R (.panicked ch) w) : EJ C (bodyPost C.P fn R) (.panic ch) L O S :=
  fun _ w hr hp => ⟨hr.defers.trans hD, hR w hp⟩
theorem oj_panic {v : Value} {tt : TypeId} (hx : val L x = some (.iface tt v)) (k : EJ C Q (.panic [{ v := .iface tt v, recovered := false }]) L O S) : OJ C ops Q (⟨none, .panic x, ty, pos, aft, none⟩ :: rest) L O S := by
  intro a w hr hp
  unfold wpListIn
  rw [if_pos (by simp [Region.wanted])]
  refine ⟨fun _ _ => trivial, ?_⟩
  rw [Oper.semAt_eq _ _ _ (by intro c h; cases h)]
  have h : (execOp a.eval ⟨none, .panic x, ty, pos, aft, none⟩).run C.P w = .halt (.panic (.iface tt v)) w := by
    simp only [execOp, hr.val hx, Instr.panic, goPanic]; rfl
  rw [h]
  exact k a w hr hp
section
variable {xs : List Operand} {vs : List Value} {ats : Array TypeId} {f : FuncId}
/-- What a call that turns nothing comes to: a value, or a panic. -/
def endP (p : Bool) (v : Value) (ch : List PanicEntry) : Ending := bif p then .returned v else .panicked ch
theorem oj_callP {d : Nat} {p : Bool} {v : Value} {ch : List PanicEntry} (hf : ∀ args w, (callFunc f args).run C.P w = .ok (.enter f args) w) (hv : valsO L xs = some vs)
    (hc : ∀ w, Hp C.F C.w0 O S w → Calls C.P f vs.toArray w (fun e w' => e = endP p v ch ∧ Grow w w')) (hdN : Nat.blt d C.N = true)
    (k2 : p = false → EJ C Q (.panic ch) L O S) (k : p = true → OJ C ops Q rest ((d, v) :: L) O S) : OJ C ops Q (⟨some d, .call ⟨.value (.func f), xs.toArray, ats⟩, ty, pos, aft, none⟩ :: rest) L O S := by
  intro a w hr hp
  have hdN' : d < C.N := by simpa [Nat.blt_eq] using hdN
  unfold wpListIn
  rw [if_pos (by simp [Region.wanted])]
  refine ⟨fun _ _ => trivial, ?_⟩
  rw [Oper.semAt_eq _ _ _ (by intro c h; cases h), run_call hr hf hv]
  refine ⟨fun h => (by cases h), callsIn_FR.2 ((hc w hp).mono fun e w' hx => ?_)⟩
  obtain ⟨rfl, hg⟩ := hx
  cases p with
  | true => exact k rfl _ w' (hr.put hdN' _) (hp.grow hg)
  | false => exact k2 rfl _ w' hr (hp.grow hg)
/-- A call (of a function, or a function value) that turns several things, or panics. -/
theorem oj_callLP {X Y : Type} {x : Operand} {d : Nat} {fi ca : Array Value} (enc : X → Value) (pc : Y → List PanicEntry) (p : X → Prop) (q : Y → Prop) (Os : List Fact) (Ps : X → List Fact) (Pp : Y → List Fact) {R : List Fact} [ht : Takes O Os R]
    (hf : ∀ args w, (callFunc f args).run C.P w = .ok (.enter f args) w) (hx : val L x = some (.func (.func f) fi ca)) (hv : valsO L xs = some vs)
    (hc : ∀ w, Hp C.F C.w0 O S w → Calls C.P f (fi ++ vs.toArray ++ ca) w (fun e w' => (∃ z, p z ∧ e = .returned (enc z) ∧ Giv Os w w' (Ps z)) ∨ (∃ y, q y ∧ e = .panicked (pc y) ∧ Giv Os w w' (Pp y)))) (hdN : Nat.blt d C.N = true)
    (k2 : ∀ y, q y → EJ C Q (.panic (pc y)) L (Pp y ++ R) S) (k : ∀ z, p z → OJ C ops Q rest ((d, enc z) :: L) (Ps z ++ R) S) : OJ C ops Q (⟨some d, .call ⟨.value x, xs.toArray, ats⟩, ty, pos, aft, none⟩ :: rest) L O S := by
  intro a w hr hp
  have hdN' : d < C.N := by simpa [Nat.blt_eq] using hdN
  unfold wpListIn
  rw [if_pos (by simp [Region.wanted])]
  refine ⟨fun _ _ => trivial, ?_⟩
  rw [Oper.semAt_eq _ _ _ (by intro c h; cases h), run_callV hr hf hx hv]
  refine ⟨fun h => (by cases h), callsIn_FR.2 ((hc w hp).mono fun e w' hx => ?_)⟩
  rcases hx with ⟨z, hz, rfl, hg⟩ | ⟨y, hy, rfl, hg⟩
  · exact k z hz _ w' (hr.put hdN' _) (hp.takeGiv ht.perm hg)
  · exact k2 y hy _ w' hr (hp.takeGiv ht.perm hg)
end
theorem y_typeAssertT {tx ta : TypeId} {v : Value} {d : TypeDesc} (ht : C.P.underlying ta = some d) (hd : ∀ m, d ≠ .interface m) (hx : val L x = some (.iface ta v)) : Yi C ⟨dst, .typeAssert x tx ta true, ty, pos, aft, gu⟩ L O S (.tuple #[v, .bool true]) :=
  yi_val (by intro c h; cases h) fun a w hr _ => by
    simp only [execOp, hr.val hx, Instr.typeAssert, Sem.run_bind, run_underlying ht, Result.andThen_ok]
    cases d <;> first | exact absurd rfl (hd _) | simp
/-! ### Deferred calls that recover -/
theorem oj_defer {f : FuncId} {ca : Array Value} (hD : C.D = []) (hro : C.ro = none) (hx : val L x = some (.func (.func f) #[] ca)) (k : OJ { C with D := [⟨.fn (.func f) ca, #[]⟩] } ops Q rest L O S) :
    OJ C ops Q (⟨none, .defer ⟨.value x, #[], #[]⟩, ty, pos, aft, none⟩ :: rest) L O S := by
  intro a w hr hp
  unfold wpListIn
  rw [if_pos (by simp [Region.wanted])]
  refine ⟨fun _ _ => trivial, ?_⟩
  have h : (Oper.semAt (FR C.ro).round a.eval ⟨none, .defer ⟨.value x, #[], #[]⟩, ty, pos, aft, none⟩).run C.P w = .ok (.defer ⟨.fn (.func f) ca, #[]⟩) w := by
    rw [show (FR C.ro).round = none from hro, Oper.semAt_none]
    simp [execOp, resolve, hr.val hx, Deferred.ofValue]
  rw [h]
  refine k { a with defers := ⟨.fn (.func f) ca, #[]⟩ :: a.defers } w ⟨?_, hr.size, hr.look⟩ hp
  show _ :: a.defers = _
  rw [hr.defers, hD]
theorem enterD {P : Program} {f : FuncId} {fn : Func} {c : Code} {args : List Value} {w : World} {R : Ending → World → Prop} (F : Nat → Prop) (O S : List Fact)
    (hf : P.funcs[f]? = some fn) (hb : fn.body = some c) (hn : args.length ≤ fn.ntmps) (hp : Hp F w O S w)
    (h : CJ ⟨P, none, F, w, fn.ntmps, []⟩ c (bodyPostD P fn R) (regsOf 0 args) O S) : Calls P f args.toArray w R := by
  refine calls_of_wp_defers hf hb (wpIn_FR_none.1 (h _ w ⟨rfl, ?_, fun k v hk => ?_⟩ hp))
  · simp; omega
  · obtain ⟨_, h2⟩ := look_regsOf args 0 k v hk
    simp only [Nat.sub_zero] at h2
    have hk' : k < args.length := (List.getElem?_eq_some_iff.1 h2).1
    rw [Array.getElem?_append_left (by simpa using hk')]
    simpa using h2
theorem enterDO {P : Program} {f : FuncId} {fn : Func} {c : Code} {args : List Value} {w : World} {R : Ending → World → Prop} (Os S : List Fact)
    (hf : P.funcs[f]? = some fn) (hb : fn.body = some c) (hn : args.length ≤ fn.ntmps) (hO : ∀ f ∈ Os, f.P w ∧ ∀ b, f.fp b → b < w.heap.size) (hap : Os.Pairwise (fun f g => ∀ b, f.fp b → ¬ g.fp b))
    (hS : ∀ g ∈ S, g.P w ∧ ∀ i, g.fp i → i < w.heap.size ∧ ∀ f ∈ Os, ¬ f.fp i)
    (h : CJ ⟨P, none, FrO w Os, w, fn.ntmps, []⟩ c (bodyPostD P fn R) (regsOf 0 args) Os S) : Calls P f args.toArray w R :=
  enterD (FrO w Os) Os S hf hb hn ⟨rfl, rfl, rfl, Nat.le_refl _, fun _ hi => ⟨hi.1, rfl⟩, fun g hg => ⟨(hO g hg).1, fun b hb => ⟨(hO g hg).2 b hb, fun h => h.2 g hg hb⟩⟩, hap, fun g hg => ⟨(hS g hg).1, fun i hi => ((hS g hg).2 i hi).1, fun o ho i hi hio => ((hS g hg).2 i hi).2 o ho hio⟩⟩ h
/-- The function returns: the deferred call finds nothing to recover. -/
theorem ej_retD {fn : Func} {R : Ending → World → Prop} {g : FuncId} {ca : Array Value} (hD : C.D = [⟨.fn (.func g) ca, #[]⟩]) (hf : ∀ args w, (callFunc g args).run C.P w = .ok (.enter g args) w)
    (hc : ∀ w, Hp C.F C.w0 O S w → CallsD C.P g ca .returning w (fun e u' w' => (∃ v, e = .returned v) ∧ u' = .returning ∧ Grow w w'))
    (hres : ∀ a w, RegsOk C.N C.D L a → Hp C.F C.w0 O S w → ∃ v, (results fn a.tmps).run C.P w = .ok v w ∧ R (.returned v) w) : EJ C (bodyPostD C.P fn R) .ret L O S := fun a w hr hp => by
  show Leaves C.P fn a.tmps R a.defers .returning w
  rw [hr.defers, hD]
  refine ⟨by simp, _, _, g, ca, rfl, by simp [invoke, hf], ?_⟩
  intro c₀ cs hu
  obtain ⟨e, u', w', fr, ⟨⟨v, rfl⟩, rfl, hg⟩, h1, h2, h3⟩ := hc w hp c₀ cs hu
  exact ⟨_, _, w', fr, hres a w' hr (hp.grow hg), h1, h2, h3⟩
/-- It panics: the deferred call recovers, and turns what one block holds. -/
theorem ej_panD {fn : Func} {R : Ending → World → Prop} {g : FuncId} {ca : Array Value} {ch ch' : List PanicEntry} {b : Nat} {ob ob' : Obj} {O' : List Fact} (hD : C.D = [⟨.fn (.func g) ca, #[]⟩]) (hf : ∀ args w, (callFunc g args).run C.P w = .ok (.enter g args) w) (hs : settle (.panicking ch') = .returning)
    [hb : HasB O b ob] [hu : UpdB O b ob ob' O'] (hc : ∀ w, Hp C.F C.w0 O S w → CallsD C.P g ca (.panicking ch) w (fun e u' w' => (∃ v, e = .returned v) ∧ u' = .panicking ch' ∧ Mut (ownB b ob) w w' ∧ w'.heap[b]? = some ob'))
    (hres : ∀ a w, RegsOk C.N C.D L a → Hp C.F C.w0 O' S w → ∃ v, (results fn a.tmps).run C.P w = .ok v w ∧ R (.returned v) w) : EJ C (bodyPostD C.P fn R) (.panic ch) L O S := fun a w hr hp => by
  show Leaves C.P fn a.tmps R a.defers (.panicking ch) w
  rw [hr.defers, hD]
  refine ⟨by simp, _, _, g, ca, rfl, by simp [invoke, hf], ?_⟩
  intro c₀ cs hu0
  obtain ⟨e, u', w', fr, ⟨⟨v, rfl⟩, rfl, hm, hP⟩, h1, h2, h3⟩ := hc w hp c₀ cs hu0
  refine ⟨_, _, w', fr, ?_, h1, h2, h3⟩
  show Leaves C.P fn a.tmps R [] (settle (.panicking ch')) w'
  rw [hs]
  refine hres a w' hr (hp.write hu.rep hm.os hm.tape hm.output hm.size hm.same hP (fun c hc => ⟨?_, .inl hc⟩))
  have hc' : c = b := hc
  subst hc'
  exact Nat.lt_of_lt_of_le ((hp.own _ hb.mem).2 c rfl).1 hm.size
/-- Results in a temporary and a cell, or in two cells. -/
theorem res_TC {fn : Func} {p u : Tmp} {t : TypeId} {ad : Addr} {v z : Value} (h : fn.results = #[.tmp u, .cell p t]) (hx : val L (.tmp p) = some (.pointer (some ad))) (hy : Yi C ⟨none, .load t (.tmp p), 0, "", #[], none⟩ L O S v) (hu : look L u = some z) {a : Act} {w : World} (hr : RegsOk C.N C.D L a) (hp : Hp C.F C.w0 O S w) :
    (results fn a.tmps).run C.P w = .ok (.tuple #[z, v]) w := by
  have h1 := getQ_of_look hr hx
  have h2 := getQ_of_look hr hu
  simp [results, h, h1, h2, asAddr, yi_loadVar hx hy hr hp]
theorem res_CC {fn : Func} {p q : Tmp} {t u : TypeId} {ad bd : Addr} {v z : Value} (h : fn.results = #[.cell p t, .cell q u]) (hx : val L (.tmp p) = some (.pointer (some ad))) (hy : Yi C ⟨none, .load t (.tmp p), 0, "", #[], none⟩ L O S v)
    (hx2 : val L (.tmp q) = some (.pointer (some bd))) (hy2 : Yi C ⟨none, .load u (.tmp q), 0, "", #[], none⟩ L O S z) {a : Act} {w : World} (hr : RegsOk C.N C.D L a) (hp : Hp C.F C.w0 O S w) :
    (results fn a.tmps).run C.P w = .ok (.tuple #[v, z]) w := by
  have h1 := getQ_of_look hr hx
  have h2 := getQ_of_look hr hx2
  simp [results, h, h1, h2, asAddr, yi_loadVar hx hy hr hp, yi_loadVar hx2 hy2 hr hp]
/-- A deferred function that first asks what there is to recover. -/
theorem callsD_rec {P : Program} {f : FuncId} {fn : Func} {tl : Code} {args : List Value} {u u' : FrameMode} {w : World} {R : Ending → FrameMode → World → Prop} {id d d' : Nat} {o0 o1 : Oper} (v : Value) (F : Nat → Prop) (O S : List Fact)
    (hf : P.funcs[f]? = some fn) (hb : fn.body = some (.seq (.region id [o0, o1].toArray false) tl)) (hn : args.length ≤ fn.ntmps) (hd : d < fn.ntmps) (hd' : d' < fn.ntmps)
    (h0 : o0.op = .call ⟨.builtin .recover, #[], #[]⟩) (h0d : o0.dst = some d) (h0g : o0.guard = none) (h1 : o1.op = .assign (.tmp d)) (h1d : o1.dst = some d') (h1g : o1.guard = none)
    (hrec : ∀ (c₀ : Frame) (cs : List Frame), c₀.mode = u → (recoverD (c₀ :: cs) = some (v, { c₀ with mode := u' } :: cs)) ∨ (recoverD (c₀ :: cs) = none ∧ v = .nilIface ∧ u' = u))
    (hp : Hp F w O S w) (h : CJ ⟨P, none, F, w, fn.ntmps, []⟩ tl (bodyPost P fn (fun e w' => R e u' w')) ((d', v) :: (d, v) :: regsOf 0 args) O S) : CallsD P f args.toArray u w R := by
  refine callsD_of_wpS hf hb fun c₀ cs hu => wpS_seq (wpS_region ?_)
  have hr0 : RegsOk fn.ntmps [] (regsOf 0 args) { tmps := args.toArray ++ Array.replicate (fn.ntmps - args.toArray.size) undef, defers := [] } := by
    refine ⟨rfl, ?_, fun k v hk => ?_⟩
    · simp; omega
    · obtain ⟨_, h2⟩ := look_regsOf args 0 k v hk
      simp only [Nat.sub_zero] at h2
      have hk' : k < args.length := (List.getElem?_eq_some_iff.1 h2).1
      rw [Array.getElem?_append_left (by simpa using hk')]
      simpa using h2
  generalize ha : ({ tmps := args.toArray ++ Array.replicate (fn.ntmps - args.toArray.size) undef, defers := [] } : Act) = a at hr0
  have hk : ∀ cs', cs' = { c₀ with mode := u' } :: cs → tl.wpS P (bodyPostS P fn c₀ cs R) ((a.put (some d) v).put (some d') v) cs' w := by
    intro cs' hcs
    subst hcs
    refine wpS_of_wp (wp_mono (wpIn_FR_none.1 (h _ w ((hr0.put hd v).put hd' v) hp)) fun e a' w' hq => ?_)
    cases e with
    | normal => obtain ⟨h3, v', h4, h5⟩ := hq; exact ⟨h3, u', rfl, v', h4, h5⟩
    | ret => obtain ⟨h3, v', h4, h5⟩ := hq; exact ⟨h3, u', rfl, v', h4, h5⟩
    | panic ch => obtain ⟨h3, h4⟩ := hq; exact ⟨h3, u', rfl, h4⟩
    | outgrown => exact ⟨u', hq⟩
    | exit id => exact hq.elim
    | goto l => exact hq.elim
  have hw0 : Region.wanted o0 (yielded [o0, o1].toArray a.tmps) = true := by simp [Region.wanted, h0g]
  have hw1 : ∀ tm, Region.wanted o1 (yielded [o0, o1].toArray tm) = true := fun tm => by simp [Region.wanted, h1g]
  have he0 : (execOp a.eval o0).run P w = .ok .recover w := by simp [execOp, h0, resolve, invoke, builtin]
  have he1 : (execOp (a.put (some d) v).eval o1).run P w = .ok (.value v) w := by
    have h3 : (a.put (some d) v).eval (.tmp d) = v := by
      have := (hr0.put hd v).val (x := .tmp d) (v := v) (by simp [Sx.val, look])
      exact this
    simp [execOp, h1, h3]
  have hl : List.range [o0, o1].toArray.size = [0, 1] := rfl
  rw [hl]
  unfold wpOpsS
  rw [show ([o0, o1].toArray)[0]? = some o0 from rfl]
  dsimp only
  rw [if_pos hw0, he0]
  dsimp only
  rcases hrec c₀ cs hu with h3 | ⟨h3, rfl, rfl⟩
  · rw [h3]
    dsimp only
    unfold wpOpsS
    rw [show ([o0, o1].toArray)[1]? = some o1 from rfl]
    dsimp only
    rw [if_pos (hw1 _), h0d, he1]
    simp only [Oper.upon, wpOpsS, Exit.thenS, h1d]
    exact hk _ rfl
  · rw [h3]
    dsimp only
    unfold wpOpsS
    rw [show ([o0, o1].toArray)[1]? = some o1 from rfl]
    dsimp only
    rw [if_pos (hw1 _), h0d, he1]
    simp only [Oper.upon, wpOpsS, Exit.thenS, h1d]
    refine hk _ ?_
    rw [← hu]
/-- A panic that is on its way is recovered. -/
theorem rec_pan (v : Value) (c₀ : Frame) (cs : List Frame) (h : c₀.mode = .panicking [{ v, recovered := false }]) : recoverD (c₀ :: cs) = some (v, { c₀ with mode := .panicking [{ v, recovered := true }] } :: cs) := by
  simp only [recoverD, h]
theorem rec_ret (c₀ : Frame) (cs : List Frame) (h : c₀.mode = .returning) : recoverD (c₀ :: cs) = none := by simp only [recoverD, h]
end
end Go.Sx
namespace Go.Sx
open Go.RowKit
section
variable {C : Cx} {Q : Exit → Act → World → Prop} {L : Regs} {O S : List Fact} {ops : Array Oper} {rest : List Oper} {ty : TypeId} {pos : String} {aft : Array Edge} {dst : Option Tmp} {gu : Option (Nat × Bool)} {t : TypeId}
/-- The queue: elements of a cell each, from the k-th cell of a block on. -/
def qu {α : Type} (e : TypeId) (en : α → Value) (b k c : Nat) (xs : List α) : Fact where
  fp := fun i => i = b
  P := fun w => ∃ cur, w.heap[b]? = some (.cells cur e (0, 0)) ∧ k + c ≤ cur.size ∧ xs.length ≤ c ∧ (cur.toList.drop k).take xs.length = xs.map en
  stab := fun h ⟨cur, h1, h2⟩ => ⟨cur, (h b rfl).trans h1, h2⟩
class UpdQu (O : List Fact) {α : Type} (e : outParam TypeId) (en : outParam (α → Value)) (b k c : Nat) (xs : List α) (f' : Fact) (O' : outParam (List Fact)) : Prop where
  rep : Rep O (qu e en b k c xs) f' O'
instance (priority := 900) UpdQu.tail {α : Type} (f : Fact) (O O' : List Fact) (e : TypeId) (en : α → Value) (b k c : Nat) (xs : List α) (f' : Fact) [h : UpdQu O e en b k c xs f' O'] : UpdQu (f :: O) e en b k c xs f' (f :: O') := ⟨.tail _ _ _ _ _ h.rep⟩
instance (priority := 1000) UpdQu.head {α : Type} (O : List Fact) (e : TypeId) (en : α → Value) (b k c : Nat) (xs : List α) (f' : Fact) : UpdQu (qu e en b k c xs :: O) e en b k c xs f' (f' :: O) := ⟨.head _ _ _⟩
/-- A block of one's own, told in other words. -/
class UpdB1 (O : List Fact) (b : Nat) (ob : outParam Obj) (f' : Fact) (O' : outParam (List Fact)) : Prop where
  rep : Rep O (ownB b ob) f' O'
instance (priority := 900) UpdB1.tail (f : Fact) (O O' : List Fact) (b : Nat) (ob : Obj) (f' : Fact) [h : UpdB1 O b ob f' O'] : UpdB1 (f :: O) b ob f' (f :: O') := ⟨.tail _ _ _ _ _ h.rep⟩
instance (priority := 1000) UpdB1.head (O : List Fact) (b : Nat) (ob : Obj) (f' : Fact) : UpdB1 (ownB b ob :: O) b ob f' (f' :: O) := ⟨.head _ _ _⟩
theorem qu_cell {α : Type} {e : TypeId} {en : α → Value} {b k c : Nat} {xs : List α} {w : World} (h : (qu e en b k c xs).P w) {i : Nat} {x : α} (hx : xs[i]? = some x) : w.cell? ⟨b, k + i, none⟩ = some (en x) := by
  obtain ⟨cur, h1, h2, h3, h4⟩ := h
  rw [cell_of_row w b (k + i) cur e (0, 0) h1]
  have hi := (List.getElem?_eq_some_iff.1 hx).1
  have h5 : ((cur.toList.drop k).take xs.length)[i]? = some (en x) := by rw [h4, List.getElem?_map, hx]; rfl
  rw [List.getElem?_take_of_lt hi, List.getElem?_drop] at h5
  simpa using h5
theorem reads_qu {α : Type} {e : TypeId} {en : α → Value} {b k c : Nat} {xs : List α} (hm : qu e en b k c xs ∈ O) : Reads C O S 1 (fun x => [en x]) (some ⟨b, k, none⟩) xs := fun w hp _ => by
  refine ⟨⟨b, k, none⟩, rfl, fun i x j u hx hu => ?_⟩
  have hj : j = 0 := by
    have := (List.getElem?_eq_some_iff.1 hu).1
    simp at this; exact this
  subst hj
  have hu' : en x = u := by simpa using hu
  rw [addr_add, ← hu']
  have := qu_cell (hp.own _ hm).1 hx
  simpa using this
/-- A literal becomes a queue. -/
theorem cj_quOf {cd : Code} {α : Type} {e b : Nat} {cs : List Value} {O' : List Fact} (en : α → Value) (xs : List α) (hcs : xs.map en = cs) [hu : UpdB1 O b (cellsB e cs) (qu e en b 0 xs.length xs) O'] (k : CJ C cd Q L O' S) : CJ C cd Q L O S := fun a w hr hp => k a w hr (by
  have hm := (hp.own _ hu.rep.mem)
  refine hp.write hu.rep rfl rfl rfl (Nat.le_refl _) (fun _ _ _ => rfl) ⟨cs.toArray, hm.1, ?_, Nat.le_refl _, ?_⟩ (fun c hc => ⟨hm.2 c hc |>.1, .inl hc⟩)
  · subst hcs; simp
  · subst hcs
    rw [List.drop_zero]
    exact List.take_of_length_le (by simp))
/-- The head is cut off. -/
theorem cj_quCut {cd : Code} {α : Type} {e b k c : Nat} {en : α → Value} {x : α} {xs : List α} {O' : List Fact} [hu : UpdQu O e en b k c (x :: xs) (qu e en b (if c = 1 then k else k + 1) (c - 1) xs) O'] (kk : CJ C cd Q L O' S) : CJ C cd Q L O S := fun a w hr hp => kk a w hr (by
  have hm := (hp.own _ hu.rep.mem)
  refine hp.write hu.rep rfl rfl rfl (Nat.le_refl _) (fun _ _ _ => rfl) ?_ (fun c hc => ⟨hm.2 c hc |>.1, .inl hc⟩)
  obtain ⟨cur, h1, h2, h3, h4⟩ := hm.1
  simp only [List.length_cons] at h3
  refine ⟨cur, h1, ?_, by omega, ?_⟩
  · split <;> omega
  · by_cases hc : c = 1
    · have : xs = [] := List.eq_nil_of_length_eq_zero (by omega)
      subst this; simp
    · rw [if_neg hc]
      have h5 := congrArg (List.drop 1) h4
      rw [List.drop_take, List.drop_drop] at h5
      simpa using h5)
theorem subA_q (b k c : Nat) : subA (some (⟨b, k, none⟩ : Addr)) c 1 1 = some ⟨b, if c = 1 then k else k + 1, none⟩ := by
  unfold subA
  split
  · rfl
  · simp [addr_add]
theorem y_quCut {α : Type} {e b k c : Nat} {lo : Operand} {x : Operand} {y : α} {xs : List α} (hu : C.P.underlying t = some (.slice e)) (hs : ∀ w, (sizeOf e).run C.P w = .ok 1 w) (hx : val L x = some (.slice (some ⟨b, k, none⟩) (y :: xs).length c)) (hlo : val L lo = some (.int .i64 1)) (hc : (y :: xs).length ≤ c) :
    Yi C ⟨dst, .slice t x (some lo) none none, ty, pos, aft, gu⟩ L O S (.slice (some ⟨b, if c = 1 then k else k + 1, none⟩) xs.length (c - 1)) := by
  have h := y_sliceR (C := C) (O := O) (S := S) (dst := dst) (ty := ty) (pos := pos) (aft := aft) (gu := gu) (xs := y :: xs) (lo := some lo) (hi := none) 1 (y :: xs).length hu hs hx hlo rfl (by simp) (Nat.le_refl _) hc
  rw [subA_q, List.take_length] at h
  exact h
/-- One more at the end. -/
theorem oj_quAppend {α : Type} {e bytes b k c c2 b2 d : Nat} {s x : Operand} {en : α → Value} {xs : List α} {y : α} {O' : Nat → Nat → Nat → List Fact} (hE : ElemIs C.P t e 1 bytes) (hone : ∀ x, (en x).oneCell' = true)
    (hs : val L s = some (.slice (some ⟨b, k, none⟩) xs.length c)) (hx : val L x = some (.slice (some ⟨b2, 0, none⟩) 1 c2)) (hrd : Reads C O S 1 (fun x => [en x]) (some ⟨b2, 0, none⟩) [y])
    (hlen : xs.length + 1 ≤ 9223372036854775807) (hby : (xs.length + 1) * bytes ≤ 140737488355328) (hdN : Nat.blt d C.N = true)
    [hu : ∀ b' k' c', UpdQu O e en b k c xs (qu e en b' k' c' (xs ++ [y])) (O' b' k' c')]
    (kk : ∀ b' k' c', OJ C ops Q rest ((d, .slice (some ⟨b', k', none⟩) (xs ++ [y]).length c') :: L) (O' b' k' c') S) : OJ C ops Q (⟨some d, .call ⟨.builtin .append, #[s, x], #[t, t]⟩, ty, pos, aft, none⟩ :: rest) L O S := by
  intro a w hr hp
  have hdN' : d < C.N := by simpa [Nat.blt_eq] using hdN
  unfold wpListIn
  rw [if_pos (by simp [Region.wanted])]
  refine ⟨fun _ _ => trivial, ?_⟩
  rw [Oper.semAt_eq _ _ _ (by intro c h; cases h)]
  obtain ⟨i, z, hut, hi, hz, hsz, hbt, hzs, hpos⟩ := hE.ex
  obtain ⟨hP, hlt⟩ := hp.own _ (hu 0 0 0).rep.mem
  obtain ⟨cur, h1, h2, h3, h4⟩ := hP
  obtain ⟨ad, had, hc⟩ := hrd w hp (by simp)
  injection had with had
  subst had
  have hnews : ∀ j u, ([en y])[j]? = some u → w.cell? ((⟨b2, 0, none⟩ : Addr).add j) = some u := by
    intro j u hj
    have hj0 : j = 0 := by
      have := (List.getElem?_eq_some_iff.1 hj).1
      simp at this; exact this
    subst hj0
    have := hc 0 y 0 u rfl hj
    simpa using this
  have h1c : ∀ u ∈ [en y], u.oneCell' = true := fun u hu => by rw [List.mem_singleton.1 hu]; exact hone y
  have hblt : b < w.heap.size := (hlt b rfl)|>.1
  have hcell : ∀ (j : Nat) (v : Value), (xs.map en)[j]? = some v → w.cell? ((⟨b, k, none⟩ : Addr).add j) = some v := by
    intro j v hj
    rw [List.getElem?_map, Option.map_eq_some_iff] at hj
    obtain ⟨q, hq, rfl⟩ := hj
    rw [addr_add]
    exact qu_cell (e := e) (c := c) ⟨cur, h1, h2, h3, h4⟩ hq
  have hf := run_firstCells_some (P := C.P) w i.size 1 ⟨b2, 0, none⟩ 1 c2 [en y] (by rw [hsz]; rfl) hnews
  by_cases hroom : xs.length + 1 ≤ c
  · have hst := run_storeCells_at C.P b (k + xs.length) e [en y] 0 cur w h1 (by simp; omega) h1c
    simp only [Nat.add_zero] at hst
    have hrun : (execOp a.eval ⟨some d, .call ⟨.builtin .append, #[s, x], #[t, t]⟩, ty, pos, aft, none⟩).run C.P w = .ok (.value (.slice (some ⟨b, k, none⟩) (xs.length + 1) c)) (w.setRow b (cur.toList.take (k + xs.length) ++ [en y] ++ cur.toList.drop (k + xs.length + 1)).toArray) := by
      have hf' := run_firstCells_some (P := C.P) w 1 1 ⟨b2, 0, none⟩ 1 c2 [en y] rfl hnews
      simp [execOp, resolve, invoke, builtin, hr.val hs, hr.val hx, Builtin.append_, run_underlying hut, sizeOf, typeInfo, hi, hsz, Builtin.lenOf, hroom, hf', addr_add, hst]
    rw [hrun]
    show wpListIn _ _ _ _ _ _ _ _
    have := kk b k c (a.put (some d) (.slice (some ⟨b, k, none⟩) (xs ++ [y]).length c)) (w.setRow b (cur.toList.take (k + xs.length) ++ [en y] ++ cur.toList.drop (k + xs.length + 1)).toArray) (hr.put hdN' _) ?_
    · rw [List.length_append] at this; exact this
    · refine hp.write (hu b k c).rep rfl rfl rfl (by simp) (fun q hq hne => setRow_other w b q _ (fun hbq => hne hbq)) ?_ (fun q hq => ⟨?_, .inl hq⟩)
      · have hcs : (k + xs.length) ≤ cur.toList.length := by simp; omega
        refine ⟨_, setRow_heap w b cur _ e _ h1, ?_, by rw [List.length_append]; exact hroom, ?_⟩
        · simp only [List.size_toArray, List.length_append, List.length_take, List.length_drop, List.length_cons, List.length_nil, Array.length_toList]
          omega
        · have hd : (cur.toList.take (k + xs.length)).drop k = xs.map en := by rw [List.drop_take, Nat.add_sub_cancel_left]; exact h4
          have hl : (cur.toList.take (k + xs.length)).length = k + xs.length := by rw [List.length_take]; omega
          show (List.drop k ((cur.toList.take (k + xs.length) ++ [en y]) ++ _)).take _ = _
          rw [List.drop_append_of_le_length (by rw [List.length_append, hl]; omega), List.drop_append_of_le_length (by omega), hd, List.map_append]
          rw [show (xs ++ [y]).length = (xs.map en ++ [en y]).length by simp]
          exact List.take_left
      · have hq' : q = b := hq
        subst hq'; simpa using hblt
  · have hr2 := run_append_grow (P := C.P) w t ty e i z hut hi hz ⟨b, k, none⟩ xs.length c (xs.map en) (by rw [hsz, Nat.mul_one, List.length_map]) hcell ⟨b2, 0, none⟩ 1 c2 [en y] (by rw [hsz]; rfl) hnews (by omega) (by omega) (growslice_fits (by omega) (by rw [hbt]; exact hby))
    have hrun : (execOp a.eval ⟨some d, .call ⟨.builtin .append, #[s, x], #[t, t]⟩, ty, pos, aft, none⟩).run C.P w = .ok (.value (.slice (some ⟨w.heap.size, 0, none⟩) (xs.length + 1) (grownCap w (xs.length + 1) c e)))
        (w.drew.alloc (.cells ((xs.map en).toArray ++ [en y].toArray ++ Builtin.zeroCells z.cells (grownCap w (xs.length + 1) c e - (xs.length + 1))) e)) := by
      simp [execOp, resolve, invoke, builtin, hr.val hs, hr.val hx, hr2]
    rw [hrun]
    show wpListIn _ _ _ _ _ _ _ _
    have := kk w.heap.size 0 (grownCap w (xs.length + 1) c e) (a.put (some d) (.slice (some ⟨w.heap.size, 0, none⟩) (xs ++ [y]).length (grownCap w (xs.length + 1) c e))) (w.drew.alloc (.cells ((xs.map en).toArray ++ [en y].toArray ++ Builtin.zeroCells z.cells (grownCap w (xs.length + 1) c e - (xs.length + 1))) e)) (hr.put hdN' _) ?_
    · rw [List.length_append] at this; exact this
    · have hge := grownCap_ge w (xs.length + 1) c e
      refine hp.write (hu _ _ _).rep rfl rfl rfl (by simp) (fun q hq _ => Go.heap_alloc_old w.drew _ hq) ?_ (fun q hq => ⟨?_, .inr ?_⟩)
      · refine ⟨_, Go.heap_alloc_new w.drew _, ?_, by rw [List.length_append]; exact hge, ?_⟩
        · simp only [Array.size_append, List.size_toArray, size_zeroCells, hzs, List.length_map, List.length_cons, List.length_nil]
          omega
        · simp only [List.drop_zero, Array.toList_append, List.map_append, List.map_cons, List.map_nil]
          rw [show (xs ++ [y]).length = ((xs.map en).toArray.toList ++ [en y].toArray.toList).length by simp]
          exact List.take_left
      · have hq' : q = w.heap.size := hq
        subst hq'; simp
      · have hq' : q = w.heap.size := hq
        omega
/-! ### Frozen facts -/
theorem owSl {α : Type} {fp' : Nat → Prop} {e sz c : Nat} {enc : α → List Value} {A : Option Addr} {xs : List α} {w : World} (h : (ow e sz enc A c xs).P w) (he : ∀ x, (enc x).length = sz) (hm : xs.length ≤ maxLen) (hf : ∀ b, (ow e sz enc A c xs).fp b → fp' b) : (sl fp' sz enc A xs).P w := by
  refine ⟨hm, fun hne => ?_⟩
  have h' : w.ownsRow 0 e sz (.slice A xs.length c) xs.length (xs.flatMap enc) := h
  have hA : A ≠ none := by
    rintro rfl
    rcases h'.2 with ⟨_, h2⟩ | ⟨g, cap, cur, hv, _⟩
    · exact hne (List.eq_nil_of_length_eq_zero h2)
    · injection hv with hv; cases hv
  obtain ⟨a, rfl⟩ := Option.ne_none_iff_exists'.1 hA
  have hz : a = ⟨a.block, 0, none⟩ := by
    rcases h'.2 with ⟨h1, _⟩ | ⟨g, cap, cur, hv, _⟩
    · injection h1 with h1; cases h1
    · injection hv with hv; injection hv with hv; rw [hv]
  refine ⟨a, rfl, hf _ rfl, fun i x j u hx hu => ?_⟩
  have hj : j < sz := by
    have := (List.getElem?_eq_some_iff.1 hu).1
    rw [he] at this; exact this
  have h3 := flatMap_get enc sz he xs i x j hx hj
  rw [hu] at h3
  have := h'.cells (g := a.block) rfl (i * sz + j) u h3
  rwa [← hz] at this
theorem Hp.frzS {F : Nat → Prop} {w0 w : World} {O O' S : List Fact} (hp : Hp F w0 O S w) (o f : Fact) (hs : (o :: O').Sublist O) (hP : f.P w) (hfp : ∀ b, f.fp b → o.fp b ∨ ∃ g ∈ S, g.fp b) : Hp F w0 O' (f :: S) w := by
  have h1 := hp.sub (O' := o :: O') (S' := S) hs (fun _ h => h)
  have h2 := hp.sub (O' := O') (S' := S) ((List.sublist_cons_self o O').trans hs) (fun _ h => h)
  refine ⟨h2.os, h2.tape, h2.output, h2.size, h2.fr, h2.own, h2.apart, fun g hg => ?_⟩
  rcases List.mem_cons.1 hg with rfl | hg
  · refine ⟨hP, fun b hb => ?_, fun q hq b hb hqb => ?_⟩
    · rcases hfp b hb with h | ⟨g, hg, h⟩
      · exact ((h1.own o (List.mem_cons_self ..)).2 b h).1
      · exact (h2.shared g hg).2.1 b h
    · rcases hfp b hb with h | ⟨g, hg, h⟩
      · exact (List.pairwise_cons.1 h1.apart).1 q hq b h hqb
      · exact (h2.shared g hg).2.2 q hq b h hqb
  · exact h2.shared g hg
theorem cj_frzS {cd : Code} {O' : List Fact} (o f : Fact) [hs : SubO (o :: O') O] (hP : ∀ w, Hp C.F C.w0 O S w → f.P w) (hfp : ∀ b, f.fp b → o.fp b ∨ ∃ g ∈ S, g.fp b) (k : CJ C cd Q L O' (f :: S)) : CJ C cd Q L O S :=
  fun a w hr hp => k a w hr (Hp.frzS hp o f hs.sub (hP w hp) hfp)
theorem oj_frzS {O' : List Fact} (o f : Fact) [hs : SubO (o :: O') O] (hP : ∀ w, Hp C.F C.w0 O S w → f.P w) (hfp : ∀ b, f.fp b → o.fp b ∨ ∃ g ∈ S, g.fp b) (k : OJ C ops Q rest L O' (f :: S)) : OJ C ops Q rest L O S :=
  fun a w hr hp => k a w hr (Hp.frzS hp o f hs.sub (hP w hp) hfp)
/-- A call whose result may be about what is shared already, or about new blocks. -/
theorem oj_callR {X : Type} {xs : List Operand} {vs : List Value} {ats : Array TypeId} {f : FuncId} {d : Nat} (enc : X → Value) (Sx : X → List Fact) (hf : ∀ args w, (callFunc f args).run C.P w = .ok (.enter f args) w) (hv : valsO L xs = some vs)
    (hc : ∀ w, Hp C.F C.w0 O S w → Calls C.P f vs.toArray w (fun e w' => ∃ x, e = .returned (enc x) ∧ Grow w w' ∧ ∀ g ∈ Sx x, g.P w' ∧ ∀ b, g.fp b → (∃ s ∈ S, s.fp b) ∨ (w.heap.size ≤ b ∧ b < w'.heap.size))) (hdN : Nat.blt d C.N = true)
    (k : ∀ x, OJ C ops Q rest ((d, enc x) :: L) O (Sx x ++ S)) : OJ C ops Q (⟨some d, .call ⟨.value (.func f), xs.toArray, ats⟩, ty, pos, aft, none⟩ :: rest) L O S := by
  intro a w hr hp
  have hdN' : d < C.N := by simpa [Nat.blt_eq] using hdN
  unfold wpListIn
  rw [if_pos (by simp [Region.wanted])]
  refine ⟨fun _ _ => trivial, ?_⟩
  rw [Oper.semAt_eq _ _ _ (by intro c h; cases h), run_call hr hf hv]
  refine ⟨fun h => (by cases h), callsIn_FR.2 ((hc w hp).mono fun e w' hx => ?_)⟩
  obtain ⟨x, rfl, hg, hS⟩ := hx
  have h1 := hp.grow hg
  refine k x _ w' (hr.put hdN' _) ⟨h1.os, h1.tape, h1.output, h1.size, h1.fr, h1.own, h1.apart, fun g hg' => ?_⟩
  rcases List.mem_append.1 hg' with hg' | hg'
  · refine ⟨(hS g hg').1, fun b hb => ?_, fun o ho b hb hob => ?_⟩
    · rcases (hS g hg').2 b hb with ⟨s, hs, h⟩ | h
      · exact (h1.shared s hs).2.1 b h
      · exact h.2
    · rcases (hS g hg').2 b hb with ⟨s, hs, h⟩ | h
      · exact (h1.shared s hs).2.2 o ho b h hob
      · have := ((hp.own o ho).2 b hob).1; omega
  · exact h1.shared g hg'
theorem oj_insert {t : TypeId} {x y z : Operand} (k : OJ C ops Q (⟨none, .mapUpdate t x y z, ty, pos, aft, none⟩ :: rest) L O S) : OJ C ops Q (⟨none, .insert t x y z, ty, pos, aft, none⟩ :: rest) L O S := by
  intro a w hr hp
  have h := k a w hr hp
  unfold wpListIn at h ⊢
  rw [if_pos (by simp [Region.wanted])] at h
  rw [if_pos (by simp [Region.wanted])]
  unfold Oper.wpIn at h ⊢
  rw [Oper.semAt_eq _ _ _ (by intro c h; cases h)] at h
  rw [Oper.semAt_eq _ _ _ (by intro c h; cases h)]
  exact ⟨fun _ _ => trivial, h.2⟩
end
end Go.Sx
namespace Go.Sx
open Go.RowKit
section
variable {C : Cx} {Q : Exit → Act → World → Prop} {L : Regs} {O S : List Fact} {ops : Array Oper} {rest : List Oper} {ty : TypeId} {pos : String} {aft : Array Edge} {dst : Option Tmp} {gu : Option (Nat × Bool)} {t : TypeId} {x y : Operand}
theorem take_tk {n k : Nat} {cs vs : List Value} (h : Tk n k cs vs) : (cs.drop k).take n = vs := by
  refine List.ext_getElem? fun j => ?_
  rw [List.getElem?_take]
  by_cases hj : j < n
  · rw [if_pos hj, List.getElem?_drop, h.eq j hj]
  · rw [if_neg hj, List.getElem?_eq_none (by rw [h.len]; omega)]
/-- An element of an array that lies in a register, several cells each. -/
theorem y_indexAN {e n m : Nat} {i : Int} {k : IntKind} {cs vs : List Value} (ht : C.P.underlying t = some (.array m e)) (hs : ∀ w, (sizeOf e).run C.P w = .ok n w) (ha : ∀ w, (isAgg e).run C.P w = .ok true w) (hx : val L x = some (.agg cs.toArray)) (hy : val L y = some (.int k i)) (hi : 0 ≤ i ∧ i < m) (hv : Tk n (i.toNat * n) cs vs) :
    Yi C ⟨dst, .index t x y, ty, pos, aft, gu⟩ L O S (.agg vs.toArray) :=
  yi_val (by intro c h; cases h) fun a w hr _ => by
    have he := take_tk hv
    simp [execOp, hr.val hx, hr.val hy, Instr.index, asIntOf, run_underlying ht, hi, part, hs, ha, he]
theorem ej_retC3 {fn : Func} {R : Ending → World → Prop} {p u1 u2 : Tmp} {t : TypeId} {a : Addr} {v x1 x2 : Value} (hD : C.D = []) (h : fn.results = #[.cell p t, .tmp u1, .tmp u2]) (hx : val L (.tmp p) = some (.pointer (some a))) (hy : Yi C ⟨none, .load t (.tmp p), 0, "", #[], none⟩ L O S v)
    (h1 : look L u1 = some x1) (h2 : look L u2 = some x2) (hR : ∀ w, Hp C.F C.w0 O S w → R (.returned (.tuple #[v, x1, x2])) w) :
    EJ C (bodyPost C.P fn R) .ret L O S := fun ac w hr hp => ⟨hr.defers.trans hD, _, by
      have h0 := getQ_of_look hr hx
      simp [results, h, h0, getQ_of_look hr h1, getQ_of_look hr h2, asAddr, yi_loadVar hx hy hr hp], hR w hp⟩
theorem tk_all (cs : List Value) {n : Nat} (h : cs.length = n) : Tk n 0 cs cs := ⟨fun j _ => by rw [Nat.zero_add], h⟩
theorem set_all (vs cs : List Value) (h : vs.length = cs.length) : SetC 0 vs cs vs := ⟨fun j => by
  by_cases hj : j < vs.length
  · rw [if_pos ⟨Nat.zero_le _, by omega⟩]; rfl
  · rw [if_neg (by omega), List.getElem?_eq_none (by omega), List.getElem?_eq_none (by omega)], h, by omega⟩
/-- == of two arrays, element by element. -/
theorem run_eq_arr {P : Program} {e len n d : Nat} {xs ys : Array Value} (q : Nat → Bool) (ht : P.underlying t = some (.array len e)) (hs : ∀ w, (sizeOf e).run P w = .ok n w)
    (hq : ∀ i, i < len → ∀ w, ∃ a b, (part e xs (i * n)).run P w = .ok a w ∧ (part e ys (i * n)).run P w = .ok b w ∧ (Op.equalIn d e a b).run P w = .ok (q i) w) (w : World) : (Op.equalIn (d + 1) t (.agg xs) (.agg ys)).run P w = .ok ((List.range len).all q) w := by
  simp only [Op.equalIn, Sem.run_bind, run_underlying ht, Result.andThen_ok, hs]
  simp only [Std.Legacy.Range.forIn_eq_forIn_range', Std.Legacy.Range.size, Nat.sub_zero, Nat.add_one_sub_one, Nat.div_one]
  rw [List.range_eq_range']
  have hq' : ∀ i ∈ List.range' 0 len, ∀ w, ∃ a b, (part e xs (i * n)).run P w = .ok a w ∧ (part e ys (i * n)).run P w = .ok b w ∧ (Op.equalIn d e a b).run P w = .ok (q i) w := fun i hi => hq i (by simpa using List.mem_range'_1.1 hi)
  generalize List.range' 0 len = is at hq'
  induction is with
  | nil => simp
  | cons i is ih =>
    obtain ⟨a, b, h1, h2, h3⟩ := hq' i (List.mem_cons_self ..) w
    simp only [List.forIn_cons, Sem.run_bind, h1, h2, h3, Result.andThen_ok, List.all_cons]
    cases q i with
    | false => simp
    | true => simpa using ih (fun j hj => hq' j (List.mem_cons_of_mem _ hj))
/-- The beginning of a slice. -/
theorem addr_zero (a : Addr) : a.add 0 = a := by cases a; simp [Addr.add]
theorem y_sliceTo {α : Type} {e sz c : Nat} {A : Option Addr} {xs : List α} (h : Nat) (hu : C.P.underlying t = some (.slice e)) (hs : ∀ w, (sizeOf e).run C.P w = .ok sz w) (hx : val L x = some (.slice A xs.length c)) (hy : val L y = some (.int .i64 (h : Nat))) (hh : h ≤ xs.length) (hc : xs.length ≤ c) :
    Yi C ⟨dst, .slice t x none (some y) none, ty, pos, aft, gu⟩ L O S (.slice A (xs.take h).length c) := by
  have h1 := y_slice (C := C) (O := O) (S := S) (dst := dst) (ty := ty) (pos := pos) (aft := aft) (gu := gu) (lo := none) (hi := some y) (l := 0) (h := h) hu hs hx rfl hy (Nat.zero_le _) (by omega)
  have e1 : (if c = 0 then A else A.map (·.add (0 * sz))) = A := by
    rw [Nat.zero_mul]
    cases A with
    | none => simp
    | some a => simp [addr_zero]
  rw [e1, Nat.sub_zero, Nat.sub_zero] at h1
  rw [List.length_take, Nat.min_eq_left hh]
  exact h1
theorem sl_take {α : Type} {fp : Nat → Prop} {sz : Nat} {enc : α → List Value} {A : Option Addr} {xs : List α} {w : World} (h : (sl fp sz enc A xs).P w) (n : Nat) : (sl fp sz enc A (xs.take n)).P w :=
  ⟨Nat.le_trans (by rw [List.length_take]; omega) h.1, fun hne => by
    obtain ⟨a, ha, hb, hc⟩ := h.2 (fun he => hne (by rw [he, List.take_nil]))
    refine ⟨a, ha, hb, fun i x j u hx hu => hc i x j u ?_ hu⟩
    rw [List.getElem?_take] at hx
    split at hx
    · exact hx
    · cases hx⟩
/-- An array of zero values. -/
theorem y_buildA0 {e n sz : Nat} {z : Value} {cs : List Value} (hu : C.P.underlying t = some (.array n e)) (hs : ∀ w, (sizeOf e).run C.P w = .ok sz w) (hz : ∀ w, (zeroValue t).run C.P w = .ok z w) (hc : z.cells = cs.toArray) : Yi C ⟨dst, .build t #[], ty, pos, aft, gu⟩ L O S (.agg cs.toArray) :=
  yi_val (by intro c h; cases h) fun a w hr _ => by
    simp only [execOp, Instr.build, Sem.run_bind, hz, Result.andThen_ok, run_underlying hu, hs, hc]
    simp [Instr.fill]
/-- What a map holds at a key that it has. -/
theorem y_lookupG {K V : Type} {ek : K → Value} {ev : V → Value} {kd : TypeDesc} {kt et : TypeId} {b : Nat} {l : List (K × V)} {kk : K} {v : V} [DecidableEq K] (d0 : V) (hat : getL l kk = some v) [hk : KeyE ek kd] [h : HasMp O b ek ev l] (ht : C.P.underlying t = some (.map kt et)) (hkt : C.P.underlying kt = some kd) (hz : ∀ w, (zeroValue et).run C.P w = .ok (ev d0) w)
    (hx : val L x = some (.map (some b))) (hy : val L y = some (ek kk)) : Yi C ⟨dst, .lookup t x y false, ty, pos, aft, gu⟩ L O S (ev v) := by
  have h1 := y_lookup1 (C := C) (L := L) (O := O) (S := S) (dst := dst) (ty := ty) (pos := pos) (aft := aft) (gu := gu) (ek := ek) (ev := ev) d0 ht hkt hz hx hy
  rw [hat] at h1
  exact h1
/-- An interface value against nil. -/
theorem y_neqNilI {t' : TypeId} {z : Value} (r : Bool) (ht : ∃ ms, C.P.underlying t = some (.interface ms)) (hx : val L x = some z) (hz : (z = .nilIface ∧ r = false) ∨ ((∃ tt v, z = .iface tt v) ∧ r = true)) :
    Yi C ⟨dst, .binOp .neq t x (.const .nilIface) t', ty, pos, aft, gu⟩ L O S (.bool r) :=
  yi_val (by intro c h; cases h) fun a w hr _ => by
    have h0 : a.eval (.const .nilIface) = .nilIface := rfl
    obtain ⟨ms, ht⟩ := ht
    rcases hz with ⟨rfl, rfl⟩ | ⟨⟨tt, v, rfl⟩, rfl⟩
    · have h : (Op.equal t .nilIface .nilIface).run C.P w = .ok true w := by
        have h1 : ∀ d : Nat, (Op.equalIn (d + 1) t .nilIface .nilIface).run C.P w = .ok true w := fun d => by simp [Op.equalIn, run_underlying ht]
        exact h1 9999
      simp [execOp, hr.val hx, h0, eqGuard, binOp, h]
    · have h : (Op.equal t (.iface tt v) .nilIface).run C.P w = .ok false w := by
        have h1 : ∀ d : Nat, (Op.equalIn (d + 1) t (.iface tt v) .nilIface).run C.P w = .ok false w := fun d => by simp [Op.equalIn, run_underlying ht]
        exact h1 9999
      simp [execOp, hr.val hx, h0, eqGuard, binOp, h]
end
end Go.Sx
namespace Go.Sx
open Go.RowKit
section
variable {C : Cx} {L : Regs} {O S : List Fact} {ty : TypeId} {pos : String} {aft : Array Edge} {dst : Option Tmp} {gu : Option (Nat × Bool)} {t t' : TypeId} {x y : Operand}
def orZ (a b : Int) : Int := IntKind.i64.wrap ((BitVec.ofInt 64 a ||| BitVec.ofInt 64 b).toNat : Int)
def andZ (a : Int) (c : Nat) : Nat := (BitVec.ofInt 64 a &&& BitVec.ofInt 64 (c : Int)).toNat
theorem bv_wrap (z : Int) : BitVec.ofInt 64 (IntKind.i64.wrap z) = BitVec.ofInt 64 z := by
  rw [IntKind.wrap_i64]
  apply BitVec.eq_of_toNat_eq
  rw [BitVec.toNat_ofInt, BitVec.toNat_ofInt]
  omega
theorem bv_nat (m : Nat) : BitVec.ofInt 64 (m : Int) = BitVec.ofNat 64 m := BitVec.ofInt_natCast ..
theorem and_bit {a : Int} {c i : Nat} (hc : c < 2 ^ 62) : (andZ a c).testBit i = ((BitVec.ofInt 64 a).getLsbD i && c.testBit i) := by
  unfold andZ
  rw [BitVec.testBit_toNat, BitVec.getLsbD_and]
  congr 1
  rw [← BitVec.testBit_toNat, nat_bv c (by omega)]
theorem and_le {a : Int} {c : Nat} (hc : c < 2 ^ 62) : andZ a c ≤ c := by
  have e : andZ a c &&& c = andZ a c := Nat.eq_of_testBit_eq fun i => by
    rw [Nat.testBit_and, and_bit hc]
    cases (BitVec.ofInt 64 a).getLsbD i <;> cases c.testBit i <;> rfl
  rw [← e]; exact Nat.and_le_right
theorem and_or {p c i : Nat} {n : Int} (hp : p < 2 ^ 62) (hc : c < 2 ^ 62) (h : p.testBit i = true) (h2 : c.testBit i = true) : (andZ (orZ p n) c).testBit i = true := by
  rw [and_bit hc, h2, Bool.and_true, orZ, bv_wrap, bv_nat, BitVec.ofNat_toNat, BitVec.setWidth_eq, BitVec.getLsbD_or, ← BitVec.testBit_toNat, nat_bv p (by omega), h, Bool.true_or]
theorem y_orZ {m n : Int} (hx : val L x = some (.int .i64 m)) (hy : val L y = some (.int .i64 n)) : Yi C ⟨dst, .binOp .or t x y t', ty, pos, aft, gu⟩ L O S (.int .i64 (orZ m n)) :=
  yi_val (by intro c h; cases h) fun a w hr _ => by
    have e : binOp .or t (.int .i64 m) (.int .i64 n) = pure (.int .i64 (orZ m n)) := by
      unfold binOp
      simp only [ne_eq, not_true_eq_false, if_false]
      rfl
    simp [execOp, hr.val hx, hr.val hy, eqGuard, e]
theorem y_andZ {m : Int} {c : Nat} (hx : val L x = some (.int .i64 m)) (hy : val L y = some (.int .i64 (c : Nat))) (hc : c < 2 ^ 62) : Yi C ⟨dst, .binOp .and t x y t', ty, pos, aft, gu⟩ L O S (.int .i64 ((andZ m c : Nat) : Int)) :=
  yi_val (by intro c h; cases h) fun a w hr _ => by
    have h1 : IntKind.i64.wrap ((andZ m c : Nat) : Int) = ((andZ m c : Nat) : Int) := IntWalk.i64_in _ (by have := and_le (a := m) hc; omega)
    have e : binOp .and t (.int .i64 m) (.int .i64 (c : Int)) = pure (.int .i64 ((andZ m c : Nat) : Int)) := by
      unfold binOp
      simp only [ne_eq, not_true_eq_false, if_false]
      exact congrArg (fun z => (pure (Value.int .i64 z) : Sem Value)) h1
    simp [execOp, hr.val hx, hr.val hy, eqGuard, e]
/-- An element of a slice whose length is known in other words. -/
theorem y_ixRm {α : Type} {m s e n c sz : Nat} {A : Option Addr} {i : Int} {k : IntKind} {enc : α → List Value} {xs : List α} (hm : m = xs.length) (hr0 : Reads C O S sz enc A xs) (hu : C.P.underlying s = some (.slice e)) (hs : ∀ w, (sizeOf e).run C.P w = .ok n w) (hx : val L x = some (.slice A m c)) (hy : val L y = some (.int k i)) (hi : 0 ≤ i ∧ i < m) :
    Yi C ⟨dst, .indexAddr s x y, ty, pos, aft, gu⟩ L O S (.pointer (some (at_ A (i.toNat * n)))) := by
  subst hm
  exact y_ixR hr0 hu hs hx hy hi
theorem oj_cutO {α : Type} {Q : Exit → Act → World → Prop} {ops : Array Oper} {rest : List Oper} {e : TypeId} {sz c : Nat} {enc : α → List Value} {A : Option Addr} {xs ys : List α} {O' : List Fact} (he : ∀ x, (enc x).length = sz) (hA : A = none → xs = [] ∧ c = 0) [hu : UpdOw O A e sz enc c (xs ++ ys) (ow e sz enc A c xs) O'] (k : OJ C ops Q rest L O' S) : OJ C ops Q rest L O S :=
  fun a w hr hp => k a w hr (hp.write hu.rep rfl rfl rfl (Nat.le_refl _) (fun _ _ _ => rfl) (ow_cut he hA (hp.own _ hu.rep.mem).1) (fun b hb => by
    have hb' : (ow e sz enc A c (xs ++ ys)).fp b := by
      have h1 : (Value.slice A xs.length c).ownBlock = some b := hb
      show (Value.slice A (xs ++ ys).length c).ownBlock = some b
      cases A with
      | none => simp [Value.ownBlock] at h1
      | some a => exact h1
    exact ⟨((hp.own _ hu.rep.mem).2 b hb').1, .inl hb'⟩))
end
end Go.Sx
namespace Um
def sumI : List Int → Int
  | [] => 0
  | x :: l => x + sumI l
theorem sumI_append (a b : List Int) : sumI (a ++ b) = sumI a + sumI b := by
  induction a with
  | nil => simp [sumI]
  | cons x a ih => rw [List.cons_append, sumI, sumI, ih]; omega
theorem sumI_set : ∀ (l : List Int) (i : Nat) (v : Int), i < l.length → sumI (l.set i v) = sumI l - l.getD i 0 + v
  | [], i, v, h => by simp at h
  | x :: l, 0, v, _ => by simp [sumI]; omega
  | x :: l, i + 1, v, h => by
    have := sumI_set l i v (by simpa using h)
    simp only [List.set_cons_succ, sumI, List.getD_cons_succ, this]; omega
theorem sumI_nonneg : ∀ {l : List Int}, (∀ x ∈ l, 0 ≤ x) → 0 ≤ sumI l
  | [], _ => Int.le_refl _
  | x :: l, h => by
    have h1 := h x (List.mem_cons_self ..)
    have h2 := sumI_nonneg (l := l) fun y hy => h y (List.mem_cons_of_mem _ hy)
    rw [sumI]; omega
theorem sumI_le_mul {m : Int} : ∀ {l : List Int}, (∀ x ∈ l, x ≤ m) → sumI l ≤ l.length * m
  | [], _ => by simp [sumI]
  | x :: l, h => by
    have h1 := h x (List.mem_cons_self ..)
    have h2 := sumI_le_mul (l := l) fun y hy => h y (List.mem_cons_of_mem _ hy)
    rw [sumI, List.length_cons, Int.natCast_add, Int.add_mul]; omega
theorem sumI_take_get : ∀ {l : List Int} {k : Nat} {x : Int}, l[k]? = some x → sumI (l.take (k + 1)) = sumI (l.take k) + x
  | l, k, x, h => by
    rw [List.take_add_one, h, sumI_append]
    simp [sumI]
theorem sumI_drop_get {l : List Int} {k : Nat} {x : Int} (h : l[k]? = some x) : sumI (l.drop k) = x + sumI (l.drop (k + 1)) := by
  obtain ⟨hk, rfl⟩ := List.getElem?_eq_some_iff.1 h
  rw [List.drop_eq_getElem_cons hk, sumI]
theorem sumI_replicate (n : Nat) : sumI (List.replicate n 0) = 0 := by
  induction n with
  | zero => rfl
  | succ n ih => rw [List.replicate_succ, sumI, ih]; rfl
theorem sumI_mem_le : ∀ {l : List Int}, (∀ x ∈ l, 0 ≤ x) → ∀ x ∈ l, x ≤ sumI l
  | [], _, _, h => by cases h
  | y :: l, h, x, hx => by
    have h0 := h y (List.mem_cons_self ..)
    have hn := sumI_nonneg (l := l) fun z hz => h z (List.mem_cons_of_mem _ hz)
    rw [sumI]
    rcases List.mem_cons.1 hx with rfl | hx
    · omega
    · have := sumI_mem_le (l := l) (fun z hz => h z (List.mem_cons_of_mem _ hz)) x hx; omega

/-- The floors. -/
def flo (l : List Int) (all whole : Int) : List Int := l.map fun w => all * w / whole
/-- The index that gets the next one. -/
def bstF (l out : List Int) : Nat → Nat → Nat → Nat
  | 0, _, b => b
  | n + 1, i, b => bstF l out n (i + 1) (if l.getD i 0 * (out.getD b 0 + 1) > l.getD b 0 * (out.getD i 0 + 1) then i else b)
def nxtI (l out : List Int) : Nat := bstF l out l.length 0 0
def bump (out : List Int) (i : Nat) : List Int := out.set i (out.getD i 0 + 1)
def shareF (l : List Int) : Nat → List Int → List Int
  | 0, out => out
  | n + 1, out => shareF l n (bump out (nxtI l out))
def shareL (l : List Int) (all : Int) : List Int := shareF l (all - sumI (flo l all (sumI l))).toNat (flo l all (sumI l))

/-- Unit a of i comes before unit b of j. -/
def Bt (l : List Int) (i : Nat) (a : Int) (j : Nat) (b : Int) : Prop := l.getD i 0 * b > l.getD j 0 * a ∨ (l.getD i 0 * b = l.getD j 0 * a ∧ i < j)
structure Stab (l out : List Int) : Prop where
  len : out.length = l.length
  nn : ∀ i, 0 ≤ out.getD i 0
  st : ∀ i j, i < l.length → j < l.length → i ≠ j → 0 < out.getD i 0 → Bt l i (out.getD i 0) j (out.getD j 0 + 1)

theorem gd_lt {l : List Int} {i : Nat} (h : i < l.length) : l.getD i 0 = l[i] := by simp [List.getD_eq_getElem?_getD, h]
theorem gd_ge {l : List Int} {i : Nat} (h : l.length ≤ i) : l.getD i 0 = 0 := by simp [List.getD_eq_getElem?_getD, h]
theorem getD_nn {l : List Int} (h : ∀ x ∈ l, 0 ≤ x) (i : Nat) : 0 ≤ l.getD i 0 := by
  by_cases hi : i < l.length
  · rw [gd_lt hi]; exact h _ (List.getElem_mem hi)
  · rw [gd_ge (by omega)]; exact Int.le_refl _
theorem flo_len (l : List Int) (all whole : Int) : (flo l all whole).length = l.length := List.length_map ..
theorem flo_get (l : List Int) (all whole : Int) (i : Nat) : (flo l all whole).getD i 0 = all * l.getD i 0 / whole := by
  by_cases hi : i < l.length
  · rw [gd_lt (show i < (flo l all whole).length by rw [flo_len]; exact hi), gd_lt hi]; simp [flo]
  · rw [gd_ge (show (flo l all whole).length ≤ i by rw [flo_len]; omega), gd_ge (by omega)]; simp
theorem bt_floor {all whole u v a b : Int} (hw : 0 < whole) (hu : 0 ≤ u) (hv : 0 ≤ v) (ha : a = all * u / whole) (hb : b = all * v / whole) (hp : 0 < a) : v * a < u * (b + 1) := by
  have h1 : a * whole ≤ all * u := by rw [ha]; exact Int.ediv_mul_le _ (by omega)
  have h2 : all * v < (b + 1) * whole := by rw [hb]; exact Int.lt_ediv_add_one_mul_self _ hw
  have hu0 : 0 < u := by
    rcases Int.lt_or_eq_of_le hu with h | h
    · exact h
    · rw [← h] at ha; simp at ha; omega
  have h3 : v * (a * whole) ≤ v * (all * u) := Int.mul_le_mul_of_nonneg_left h1 hv
  have h4 : u * (all * v) < u * ((b + 1) * whole) := Int.mul_lt_mul_of_pos_left h2 hu0
  have h5 : v * (all * u) = u * (all * v) := by rw [Int.mul_left_comm, Int.mul_comm v u, Int.mul_left_comm u all v]
  have h6 : (v * a) * whole < (u * (b + 1)) * whole := by rw [Int.mul_assoc, Int.mul_assoc]; omega
  exact Int.lt_of_mul_lt_mul_right h6 (by omega)
theorem stab_flo {l : List Int} (hl : ∀ x ∈ l, 0 ≤ x) {all : Int} (hall : 0 ≤ all) (hw : 0 < sumI l) : Stab l (flo l all (sumI l)) where
  len := flo_len ..
  nn i := by rw [flo_get]; exact Int.ediv_nonneg (Int.mul_nonneg hall (getD_nn hl i)) (by omega)
  st i j _ _ _ hp := .inl (bt_floor hw (getD_nn hl i) (getD_nn hl j) (flo_get ..) (flo_get ..) hp)

/-- The best next unit is the best one. -/
theorem bst_spec {l out : List Int} (hl : ∀ i, 0 ≤ l.getD i 0) (ho : ∀ i, 0 ≤ out.getD i 0) : ∀ (n i b : Nat), b < i ∨ (i = 0 ∧ b = 0) → (∀ j, j < i → j ≠ b → Bt l b (out.getD b 0 + 1) j (out.getD j 0 + 1)) →
    (bstF l out n i b < i + n ∨ (i + n = 0 ∧ bstF l out n i b = 0)) ∧ ∀ j, j < i + n → j ≠ bstF l out n i b → Bt l (bstF l out n i b) (out.getD (bstF l out n i b) 0 + 1) j (out.getD j 0 + 1)
  | 0, i, b, hb, h => ⟨by rw [bstF]; omega, by rw [bstF, Nat.add_zero]; exact h⟩
  | n + 1, i, b, hb, h => by
    rw [bstF, show i + (n + 1) = (i + 1) + n by omega]
    split
    · rename_i hgt
      refine bst_spec hl ho n (i + 1) i (.inl (by omega)) fun j hj hne => ?_
      have hji : j < i := by omega
      by_cases hjb : j = b
      · subst hjb; exact .inl hgt
      · have hb0 : b < i := by omega
        have h1 := h j hji hjb
        have e1 : l.getD j 0 * (out.getD b 0 + 1) ≤ l.getD b 0 * (out.getD j 0 + 1) := by rcases h1 with h1 | h1 <;> omega
        -- j ≤ b < i, as quotients
        refine .inl ?_
        have p1 : 0 < out.getD b 0 + 1 := by have := ho b; omega
        have p2 : 0 < out.getD j 0 + 1 := by have := ho j; omega
        have p3 : 0 < out.getD i 0 + 1 := by have := ho i; omega
        have q1 : (l.getD j 0 * (out.getD b 0 + 1)) * (out.getD i 0 + 1) ≤ (l.getD b 0 * (out.getD j 0 + 1)) * (out.getD i 0 + 1) := Int.mul_le_mul_of_nonneg_right e1 (by omega)
        have q2 : (l.getD b 0 * (out.getD i 0 + 1)) * (out.getD j 0 + 1) < (l.getD i 0 * (out.getD b 0 + 1)) * (out.getD j 0 + 1) := Int.mul_lt_mul_of_pos_right hgt p2
        have q3 : (l.getD b 0 * (out.getD j 0 + 1)) * (out.getD i 0 + 1) = (l.getD b 0 * (out.getD i 0 + 1)) * (out.getD j 0 + 1) := by rw [Int.mul_assoc, Int.mul_assoc, Int.mul_comm (out.getD j 0 + 1)]
        have q4 : (l.getD j 0 * (out.getD i 0 + 1)) * (out.getD b 0 + 1) < (l.getD i 0 * (out.getD j 0 + 1)) * (out.getD b 0 + 1) := by
          rw [Int.mul_assoc, Int.mul_comm (out.getD i 0 + 1), ← Int.mul_assoc, Int.mul_assoc (l.getD i 0), Int.mul_comm (out.getD j 0 + 1), ← Int.mul_assoc (l.getD i 0)]
          omega
        exact Int.lt_of_mul_lt_mul_right q4 (by omega)
    · rename_i hle
      refine bst_spec hl ho n (i + 1) b (.inl (by omega)) fun j hj hne => ?_
      by_cases hji : j < i
      · exact h j hji hne
      · have : j = i := by omega
        subst this
        have h2 : l.getD j 0 * (out.getD b 0 + 1) ≤ l.getD b 0 * (out.getD j 0 + 1) := by omega
        rcases Int.lt_or_eq_of_le h2 with h3 | h3
        · exact .inl h3
        · exact .inr ⟨h3.symm, by omega⟩
theorem nxt_lt {l out : List Int} (hl : ∀ i, 0 ≤ l.getD i 0) (ho : ∀ i, 0 ≤ out.getD i 0) (hne : 0 < l.length) : nxtI l out < l.length := by
  have := (bst_spec hl ho l.length 0 0 (.inr ⟨rfl, rfl⟩) (fun j hj => by omega)).1
  unfold nxtI; omega
theorem nxt_best {l out : List Int} (hl : ∀ i, 0 ≤ l.getD i 0) (ho : ∀ i, 0 ≤ out.getD i 0) (j : Nat) (hj : j < l.length) (hne : j ≠ nxtI l out) : Bt l (nxtI l out) (out.getD (nxtI l out) 0 + 1) j (out.getD j 0 + 1) :=
  (bst_spec hl ho l.length 0 0 (.inr ⟨rfl, rfl⟩) (fun j hj => by omega)).2 j (by omega) hne
theorem bump_len (out : List Int) (i : Nat) : (bump out i).length = out.length := List.length_set ..
theorem bump_get (out : List Int) (i j : Nat) (hi : i < out.length) : (bump out i).getD j 0 = if i = j then out.getD i 0 + 1 else out.getD j 0 := by
  unfold bump
  rw [List.getD_eq_getElem?_getD, List.getElem?_set]
  split
  · subst_vars; simp [hi]
  · rw [List.getD_eq_getElem?_getD]
theorem stab_bump {l out : List Int} (hl : ∀ x ∈ l, 0 ≤ x) (h : Stab l out) (hne : 0 < l.length) : Stab l (bump out (nxtI l out)) := by
  have hg := getD_nn hl
  have hlt := nxt_lt hg h.nn hne
  have hlo : nxtI l out < out.length := by rw [h.len]; exact hlt
  refine ⟨by rw [bump_len, h.len], fun i => ?_, fun i j hi hj hij hp => ?_⟩
  · rw [bump_get _ _ _ hlo]
    split
    · have := h.nn (nxtI l out); omega
    · exact h.nn i
  · rw [bump_get _ _ _ hlo] at hp ⊢
    rw [bump_get _ _ _ hlo]
    split
    · rename_i e; subst e
      rw [if_neg hij]
      exact nxt_best hg h.nn j hj (fun e => hij e.symm)
    · rename_i e
      rw [if_neg e] at hp
      split
      · rename_i e2; subst e2
        have h1 := h.st i _ hi hj hij hp
        have h2 : l.getD i 0 * (out.getD (nxtI l out) 0 + 1) ≤ l.getD i 0 * (out.getD (nxtI l out) 0 + 1 + 1) := Int.mul_le_mul_of_nonneg_left (by omega) (hg i)
        rcases h1 with h1 | ⟨h1, h3⟩
        · exact .inl (by omega)
        · rcases Int.lt_or_eq_of_le h2 with h4 | h4
          · exact .inl (by omega)
          · exact .inr ⟨by omega, h3⟩
      · exact h.st i j hi hj hij hp
theorem stab_share {l : List Int} (hl : ∀ x ∈ l, 0 ≤ x) (hne : 0 < l.length) : ∀ (n : Nat) (out : List Int), Stab l out → Stab l (shareF l n out) ∧ sumI (shareF l n out) = sumI out + n
  | 0, out, h => ⟨h, by rw [shareF]; omega⟩
  | n + 1, out, h => by
    rw [shareF]
    obtain ⟨h1, h2⟩ := stab_share hl hne n _ (stab_bump hl h hne)
    refine ⟨h1, ?_⟩
    have hlt := nxt_lt (getD_nn hl) h.nn hne
    rw [h2, bump, sumI_set _ _ _ (by rw [h.len]; exact hlt)]; omega
/-- More to share makes no part less. -/
theorem stab_mono {l a b : List Int} (hl : ∀ x ∈ l, 0 ≤ x) (ha : Stab l a) (hb : Stab l b) (hs : sumI a ≤ sumI b) (i : Nat) : a.getD i 0 ≤ b.getD i 0 := by
  refine Int.not_lt.1 fun hlt => ?_
  have hi : i < l.length := Nat.lt_of_not_le fun h => by
    rw [gd_ge (l := a) (by rw [ha.len]; omega)] at hlt
    have := hb.nn i; omega
  -- another one has more in b
  have key : ∀ (x y : List Int) (i : Nat), x.length = y.length → (∀ j, j ≠ i → y.getD j 0 ≤ x.getD j 0) → y.getD i 0 < x.getD i 0 → sumI y < sumI x := by
    have le : ∀ (x y : List Int), x.length = y.length → (∀ j, y.getD j 0 ≤ x.getD j 0) → sumI y ≤ sumI x := by
      intro x
      induction x with
      | nil => intro y h _; cases y with | nil => exact Int.le_refl _ | cons _ _ => simp at h
      | cons u x ih =>
        intro y h hj
        cases y with
        | nil => simp at h
        | cons v y =>
          have h0 := hj 0
          have h1 := ih y (by simpa using h) fun j => by have := hj (j + 1); simpa using this
          simp only [List.getD_cons_zero] at h0
          simp only [sumI]; omega
    intro x
    induction x with
    | nil => intro y i h _ h2; cases y with | nil => simp at h2 | cons _ _ => simp at h
    | cons u x ih =>
      intro y i h hj h2
      cases y with
      | nil => simp at h
      | cons v y =>
        cases i with
        | zero =>
          have h1 := le x y (by simpa using h) fun j => by have := hj (j + 1) (by omega); simpa using this
          simp only [List.getD_cons_zero] at h2
          simp only [sumI]; omega
        | succ i =>
          have h1 := ih y i (by simpa using h) (fun j hne => by have := hj (j + 1) (by omega); simpa using this) (by simpa using h2)
          have h0 := hj 0 (by omega)
          simp only [List.getD_cons_zero] at h0
          simp only [sumI]; omega
  have hex : ∃ j, j ≠ i ∧ a.getD j 0 < b.getD j 0 := Classical.byContradiction fun hn => by
    have := key a b i (by rw [ha.len, hb.len]) (fun j hj => Int.not_lt.1 fun h => hn ⟨j, hj, h⟩) hlt
    omega
  obtain ⟨j, hji, hj⟩ := hex
  have hjl : j < l.length := Nat.lt_of_not_le fun h => by
    rw [gd_ge (l := b) (by rw [hb.len]; omega)] at hj
    have := ha.nn j; omega
  have h1 := ha.st i j hi hjl (fun e => hji e.symm) (by have := hb.nn i; omega)
  have h2 := hb.st j i hjl hi hji (by have := ha.nn j; omega)
  have hg := getD_nn hl
  have e1 : l.getD j 0 * (b.getD i 0 + 1) ≤ l.getD j 0 * a.getD i 0 := Int.mul_le_mul_of_nonneg_left (by omega) (hg j)
  have e2 : l.getD i 0 * (a.getD j 0 + 1) ≤ l.getD i 0 * b.getD j 0 := Int.mul_le_mul_of_nonneg_left (by omega) (hg i)
  rcases h1 with h1 | ⟨h1, h1'⟩ <;> rcases h2 with h2 | ⟨h2, h2'⟩ <;> omega

theorem flo_sum {l : List Int} {all whole : Int} (hw : 0 < whole) : sumI (flo l all whole) * whole ≤ all * sumI l := by
  induction l with
  | nil => simp [flo, sumI]
  | cons x l ih =>
    have h1 : all * x / whole * whole ≤ all * x := Int.ediv_mul_le _ (by omega)
    simp only [flo, List.map_cons, sumI] at ih ⊢
    rw [Int.add_mul, Int.mul_add]; omega
theorem flo_le {l : List Int} {all : Int} (hw : 0 < sumI l) : sumI (flo l all (sumI l)) ≤ all :=
  Int.le_of_mul_le_mul_right (flo_sum hw) hw
theorem share_stab {l : List Int} (hl : ∀ x ∈ l, 0 ≤ x) {all : Int} (hall : 0 ≤ all) (hw : 0 < sumI l) : Stab l (shareL l all) ∧ sumI (shareL l all) = all := by
  have hne : 0 < l.length := by cases l with | nil => simp [sumI] at hw | cons _ _ => simp
  obtain ⟨h1, h2⟩ := stab_share hl hne (all - sumI (flo l all (sumI l))).toNat _ (stab_flo hl hall hw)
  refine ⟨h1, ?_⟩
  have := flo_le (l := l) (all := all) hw
  show sumI (shareF l _ _) = all
  rw [h2]; omega
theorem share_sum {l : List Int} (hl : ∀ x ∈ l, 0 ≤ x) {all : Int} (hall : 0 ≤ all) (hw : 0 < sumI l) : sumI (shareL l all) = all := (share_stab hl hall hw).2
theorem share_len {l : List Int} (hl : ∀ x ∈ l, 0 ≤ x) {all : Int} (hall : 0 ≤ all) (hw : 0 < sumI l) : (shareL l all).length = l.length := (share_stab hl hall hw).1.len
theorem share_nn {l : List Int} (hl : ∀ x ∈ l, 0 ≤ x) {all : Int} (hall : 0 ≤ all) (hw : 0 < sumI l) (i : Nat) : 0 ≤ (shareL l all).getD i 0 := (share_stab hl hall hw).1.nn i
theorem share_mono {l : List Int} (hl : ∀ x ∈ l, 0 ≤ x) {a b : Int} (ha : 0 ≤ a) (hab : a ≤ b) (hw : 0 < sumI l) (i : Nat) : (shareL l a).getD i 0 ≤ (shareL l b).getD i 0 :=
  stab_mono hl (share_stab hl ha hw).1 (share_stab hl (by omega) hw).1 (by rw [share_sum hl ha hw, share_sum hl (by omega) hw]; exact hab) i
theorem flo_whole {l : List Int} (hw : 0 < sumI l) : flo l (sumI l) (sumI l) = l := by
  unfold flo
  conv => rhs; rw [← List.map_id l]
  refine List.map_congr_left fun x _ => ?_
  rw [Int.mul_ediv_cancel_left _ (by omega)]; rfl
theorem share_whole {l : List Int} (hw : 0 < sumI l) : shareL l (sumI l) = l := by
  unfold shareL
  rw [flo_whole hw, show (sumI l - sumI l).toNat = 0 by omega, shareF]
/-- No part is more than its weight. -/
theorem share_le {l : List Int} (hl : ∀ x ∈ l, 0 ≤ x) {all : Int} (hall : 0 ≤ all) (hle : all ≤ sumI l) (hw : 0 < sumI l) (i : Nat) : (shareL l all).getD i 0 ≤ l.getD i 0 := by
  have := share_mono hl hall hle hw i
  rwa [share_whole hw] at this
end Um
namespace Um
/-- The indices of what is such. -/
def idxF {α : Type} (q : α → Bool) : Nat → List α → List Nat
  | _, [] => []
  | i, x :: l => if q x then i :: idxF q (i + 1) l else idxF q (i + 1) l
def chosenL {α : Type} (q : α → Bool) (l : List α) : List Nat := idxF q 0 l
theorem idxF_append {α : Type} (q : α → Bool) : ∀ (a b : List α) (i : Nat), idxF q i (a ++ b) = idxF q i a ++ idxF q (i + a.length) b
  | [], b, i => by simp [idxF]
  | x :: a, b, i => by
    have ih := idxF_append q a b (i + 1)
    simp only [List.cons_append, idxF, ih, List.length_cons, Nat.add_assoc, Nat.add_comm 1]
    split <;> rfl
theorem chosen_snoc {α : Type} (q : α → Bool) {l : List α} {k : Nat} {x : α} (h : l[k]? = some x) : chosenL q (l.take (k + 1)) = chosenL q (l.take k) ++ (if q x then [k] else []) := by
  have hk := (List.getElem?_eq_some_iff.1 h).1
  rw [List.take_add_one, h, chosenL, idxF_append]
  simp only [Option.toList, idxF, List.length_take, Nat.zero_add]
  rw [Nat.min_eq_left (by omega)]; rfl
theorem idxF_mem {α : Type} (q : α → Bool) : ∀ (l : List α) (i j : Nat), j ∈ idxF q i l → i ≤ j ∧ j < i + l.length ∧ ∃ x, l[j - i]? = some x ∧ q x = true
  | [], i, j, h => by cases h
  | x :: l, i, j, h => by
    have rc : j ∈ idxF q (i + 1) l → i ≤ j ∧ j < i + (x :: l).length ∧ ∃ y, (x :: l)[j - i]? = some y ∧ q y = true := fun h => by
      obtain ⟨h1, h2, y, h3, h4⟩ := idxF_mem q l (i + 1) j h
      refine ⟨by omega, by rw [List.length_cons]; omega, y, ?_, h4⟩
      rw [show j - i = (j - (i + 1)) + 1 by omega]; simpa using h3
    rw [idxF] at h
    split at h
    · rename_i hq
      rcases List.mem_cons.1 h with rfl | h
      · exact ⟨Nat.le_refl _, by simp, x, by simp, hq⟩
      · exact rc h
    · exact rc h
theorem idxF_sorted {α : Type} (q : α → Bool) : ∀ (l : List α) (i : Nat), (idxF q i l).Pairwise (· < ·)
  | [], _ => .nil
  | x :: l, i => by
    rw [idxF]
    split
    · exact List.pairwise_cons.2 ⟨fun j hj => by have := (idxF_mem q l (i + 1) j hj).1; omega, idxF_sorted q l (i + 1)⟩
    · exact idxF_sorted q l (i + 1)
theorem chosen_mem {α : Type} {q : α → Bool} {l : List α} {j : Nat} (h : j ∈ chosenL q l) : j < l.length ∧ ∃ x, l[j]? = some x ∧ q x = true := by
  obtain ⟨_, h2, h3⟩ := idxF_mem q l 0 j h
  exact ⟨by omega, by simpa using h3⟩
theorem chosen_nodup {α : Type} (q : α → Bool) (l : List α) : (chosenL q l).Nodup := (idxF_sorted q l 0).imp fun h => Nat.ne_of_lt h
theorem chosen_len {α : Type} (q : α → Bool) (l : List α) : (chosenL q l).length ≤ l.length := by
  have : ∀ (l : List α) (i : Nat), (idxF q i l).length ≤ l.length := by
    intro l
    induction l with
    | nil => intro i; exact Nat.le_refl _
    | cons x l ih => intro i; rw [idxF]; split <;> simp <;> have := ih (i + 1) <;> omega
  exact this l 0

structure DueV where
  rank : Int
  amount : Int
/-- Values are put at indices. -/
def putL : List Int → List Nat → List Int → List Int
  | paid, i :: here, v :: own => putL (paid.set i v) here own
  | paid, _, _ => paid
theorem putL_nil (paid own : List Int) : putL paid [] own = paid := by cases own <;> rfl
theorem putL_len : ∀ (here : List Nat) (own paid : List Int), (putL paid here own).length = paid.length
  | [], _, _ => by rw [putL_nil]
  | _ :: _, [], _ => rfl
  | i :: here, v :: own, paid => by rw [putL, putL_len, List.length_set]
theorem putL_out : ∀ (here : List Nat) (own paid : List Int) (j : Nat), j ∉ here → (putL paid here own).getD j 0 = paid.getD j 0
  | [], _, _, _, _ => by rw [putL_nil]
  | _ :: _, [], _, _, _ => rfl
  | i :: here, v :: own, paid, j, h => by
    rw [putL, putL_out here own _ j (fun h2 => h (List.mem_cons_of_mem _ h2)), List.getD_eq_getElem?_getD, List.getElem?_set_ne (fun e => h (by rw [e]; exact List.mem_cons_self ..)), List.getD_eq_getElem?_getD]
theorem putL_sum : ∀ (here : List Nat) (own paid : List Int), here.Nodup → here.length = own.length → (∀ i ∈ here, i < paid.length) → (∀ i ∈ here, paid.getD i 0 = 0) → sumI (putL paid here own) = sumI paid + sumI own
  | [], [], paid, _, _, _, _ => by simp [putL, sumI]
  | [], _ :: _, _, _, h, _, _ => by simp at h
  | _ :: _, [], _, _, h, _, _ => by simp at h
  | i :: here, v :: own, paid, hn, hl, hb, hz => by
    obtain ⟨h1, h2⟩ := List.nodup_cons.1 hn
    rw [putL, putL_sum here own _ h2 (by simpa using hl) (fun j hj => by rw [List.length_set]; exact hb j (List.mem_cons_of_mem _ hj)) (fun j hj => by
      rw [List.getD_eq_getElem?_getD, List.getElem?_set_ne (fun e => h1 (by rw [e]; exact hj)), ← List.getD_eq_getElem?_getD]; exact hz j (List.mem_cons_of_mem _ hj)),
      sumI_set _ _ _ (hb i (List.mem_cons_self ..)), hz i (List.mem_cons_self ..), sumI]; omega
theorem putL_mono : ∀ (here : List Nat) (o1 o2 p1 p2 : List Int), o1.length = o2.length → p1.length = p2.length → (∀ i, o1.getD i 0 ≤ o2.getD i 0) → (∀ i, p1.getD i 0 ≤ p2.getD i 0) → ∀ i, (putL p1 here o1).getD i 0 ≤ (putL p2 here o2).getD i 0
  | [], _, _, _, _, _, _, _, h, i => by rw [putL_nil, putL_nil]; exact h i
  | _ :: _, [], [], _, _, _, _, _, h, i => h i
  | _ :: _, [], _ :: _, _, _, h, _, _, _, _ => by simp at h
  | _ :: _, _ :: _, [], _, _, h, _, _, _, _ => by simp at h
  | k :: here, u :: o1, v :: o2, p1, p2, hl, hp, ho, hpp, i => by
    rw [putL, putL]
    refine putL_mono here o1 o2 _ _ (by simpa using hl) (by simp [hp]) (fun i => by have := ho (i + 1); simpa using this) (fun i => ?_) i
    have h0 : u ≤ v := by have := ho 0; simpa using this
    have := hpp i
    simp only [List.getD_eq_getElem?_getD, List.getElem?_set] at this ⊢
    split
    · subst_vars; rw [hp]; split <;> simp [h0]
    · exact this
theorem putL_nn : ∀ (here : List Nat) (own paid : List Int), (∀ i, 0 ≤ own.getD i 0) → (∀ i, 0 ≤ paid.getD i 0) → ∀ i, 0 ≤ (putL paid here own).getD i 0
  | [], _, _, _, h, i => by rw [putL_nil]; exact h i
  | _ :: _, [], _, _, h, i => h i
  | k :: here, v :: own, paid, ho, hp, i => by
    rw [putL]
    refine putL_nn here own _ (fun i => by have := ho (i + 1); simpa using this) (fun i => ?_) i
    have h0 : 0 ≤ v := by have := ho 0; simpa using this
    have := hp i
    simp only [List.getD_eq_getElem?_getD, List.getElem?_set] at this ⊢
    split
    · split <;> simp [h0]
    · exact this

def hereL (ds : List DueV) (r : Int) : List Nat := chosenL (fun d => d.rank == r) ds
def ownL (ds : List DueV) (r : Int) : List Int := (hereL ds r).map fun i => (ds.map (·.amount)).getD i 0
def gotL (ds : List DueV) (r left : Int) : List Int := if left < sumI (ownL ds r) then shareL (ownL ds r) left else ownL ds r
def rankS (ds : List DueV) (st : List Int × Int) (r : Int) : List Int × Int := if sumI (ownL ds r) = 0 then st else (putL st.1 (hereL ds r) (gotL ds r st.2), st.2 - min st.2 (sumI (ownL ds r)))
def spreadF (ds : List DueV) : Nat → List Int × Int → List Int × Int
  | 0, st => st
  | n + 1, st => spreadF ds n (rankS ds st (10 - ((n : Int) + 1)))
def spreadL (ds : List DueV) (left : Int) : List Int × Int := spreadF ds 10 (List.replicate ds.length 0, left)
def DuesOk (ds : List DueV) : Prop := ∀ d ∈ ds, 0 ≤ d.amount

theorem own_nn {ds : List DueV} (h : DuesOk ds) (r : Int) : ∀ x ∈ ownL ds r, 0 ≤ x := fun x hx => by
  obtain ⟨i, _, rfl⟩ := List.mem_map.1 hx
  exact getD_nn (fun y hy => by obtain ⟨d, hd, rfl⟩ := List.mem_map.1 hy; exact h d hd) i
theorem own_len (ds : List DueV) (r : Int) : (ownL ds r).length = (hereL ds r).length := List.length_map ..
theorem own_pos {ds : List DueV} (h : DuesOk ds) {r : Int} (hne : ¬ sumI (ownL ds r) = 0) : 0 < sumI (ownL ds r) := by
  have := sumI_nonneg (own_nn h r); omega
theorem got_len {ds : List DueV} (h : DuesOk ds) {r left : Int} (hl : 0 ≤ left) (hne : ¬ sumI (ownL ds r) = 0) : (gotL ds r left).length = (hereL ds r).length := by
  unfold gotL
  split
  · rw [share_len (own_nn h r) hl (own_pos h hne), own_len]
  · rw [own_len]
theorem got_sum {ds : List DueV} (h : DuesOk ds) {r left : Int} (hl : 0 ≤ left) (hne : ¬ sumI (ownL ds r) = 0) : sumI (gotL ds r left) = min left (sumI (ownL ds r)) := by
  unfold gotL
  split
  · rw [share_sum (own_nn h r) hl (own_pos h hne)]; omega
  · omega
theorem got_nn {ds : List DueV} (h : DuesOk ds) {r left : Int} (hl : 0 ≤ left) (hne : ¬ sumI (ownL ds r) = 0) (i : Nat) : 0 ≤ (gotL ds r left).getD i 0 := by
  unfold gotL
  split
  · exact share_nn (own_nn h r) hl (own_pos h hne) i
  · exact getD_nn (own_nn h r) i
theorem got_mono {ds : List DueV} (h : DuesOk ds) {r a b : Int} (ha : 0 ≤ a) (hab : a ≤ b) (hne : ¬ sumI (ownL ds r) = 0) (i : Nat) : (gotL ds r a).getD i 0 ≤ (gotL ds r b).getD i 0 := by
  unfold gotL
  split <;> split
  · exact share_mono (own_nn h r) ha hab (own_pos h hne) i
  · exact share_le (own_nn h r) ha (by omega) (own_pos h hne) i
  · omega
  · exact Int.le_refl _

/-- What holds between the ranks. -/
structure SpInv (ds : List DueV) (r left0 : Int) (st : List Int × Int) : Prop where
  len : st.1.length = ds.length
  nn : ∀ i, 0 ≤ st.1.getD i 0
  left : 0 ≤ st.2
  sum : sumI st.1 + st.2 = left0
  zero : ∀ (i : Nat) d, ds[i]? = some d → r ≤ d.rank → st.1.getD i 0 = 0
theorem SpInv.step {ds : List DueV} (h : DuesOk ds) {r left0 : Int} {st : List Int × Int} (hi : SpInv ds r left0 st) : SpInv ds (r + 1) left0 (rankS ds st r) := by
  unfold rankS
  split
  · exact ⟨hi.len, hi.nn, hi.left, hi.sum, fun i d hd hr => hi.zero i d hd (by omega)⟩
  · rename_i hne
    have hz : ∀ i ∈ hereL ds r, st.1.getD i 0 = 0 := fun i hi2 => by
      obtain ⟨_, d, hd, hq⟩ := chosen_mem hi2
      exact hi.zero i d hd (by have := beq_iff_eq.1 hq; omega)
    have hb : ∀ i ∈ hereL ds r, i < st.1.length := fun i hi2 => by rw [hi.len]; exact (chosen_mem hi2).1
    refine ⟨by rw [putL_len, hi.len], putL_nn _ _ _ (got_nn h hi.left hne) hi.nn, ?_, ?_, fun i d hd hr => ?_⟩
    · show 0 ≤ st.2 - min st.2 _
      have := hi.left; omega
    · show sumI (putL _ _ _) + (st.2 - min st.2 _) = left0
      rw [putL_sum (hereL ds r) _ _ (chosen_nodup _ _) (got_len h hi.left hne).symm hb hz, got_sum h hi.left hne]
      have := hi.sum; omega
    · rw [putL_out _ _ _ _ fun hm => ?_]
      · exact hi.zero i d hd (by omega)
      · obtain ⟨_, d2, hd2, hq⟩ := chosen_mem hm
        rw [hd] at hd2; cases hd2
        have := beq_iff_eq.1 hq; omega
theorem spreadF_inv {ds : List DueV} (h : DuesOk ds) {left0 : Int} : ∀ (n : Nat) (st : List Int × Int), SpInv ds (10 - (n : Int)) left0 st → SpInv ds 10 left0 (spreadF ds n st)
  | 0, st, hi => by have := hi; simpa [spreadF] using this
  | n + 1, st, hi => by
    rw [spreadF]
    refine spreadF_inv h n _ ?_
    have := hi.step h
    rw [show ((n + 1 : Nat) : Int) = (n : Int) + 1 by omega] at this
    rwa [show 10 - ((n : Int) + 1) + 1 = 10 - (n : Int) by omega] at this
theorem spread_inv {ds : List DueV} (h : DuesOk ds) {left : Int} (hl : 0 ≤ left) : SpInv ds 10 left (spreadL ds left) := by
  refine spreadF_inv h 10 _ ⟨by simp, fun i => ?_, hl, ?_, fun i d _ _ => ?_⟩
  · exact getD_nn (fun x hx => by rw [(List.mem_replicate.1 hx).2]; exact Int.le_refl _) i
  · show sumI (List.replicate ds.length 0) + left = left
    rw [sumI_replicate]; omega
  · show (List.replicate ds.length (0 : Int)).getD i 0 = 0
    rw [List.getD_eq_getElem?_getD, List.getElem?_replicate]; split <;> rfl
theorem spreadF_mono {ds : List DueV} (h : DuesOk ds) : ∀ (n : Nat) (a b : List Int × Int) (la lb : Int), SpInv ds (10 - (n : Int)) la a → SpInv ds (10 - (n : Int)) lb b → (∀ i, a.1.getD i 0 ≤ b.1.getD i 0) → a.2 ≤ b.2 →
    (∀ i, (spreadF ds n a).1.getD i 0 ≤ (spreadF ds n b).1.getD i 0) ∧ (spreadF ds n a).2 ≤ (spreadF ds n b).2
  | 0, a, b, _, _, _, _, h1, h2 => ⟨h1, h2⟩
  | n + 1, a, b, la, lb, ha, hb, h1, h2 => by
    rw [spreadF, spreadF]
    have ha' := ha.step h
    have hb' := hb.step h
    rw [show ((n + 1 : Nat) : Int) = (n : Int) + 1 by omega] at ha' hb'
    rw [show 10 - ((n : Int) + 1) + 1 = 10 - (n : Int) by omega] at ha' hb'
    refine spreadF_mono h n _ _ la lb ha' hb' ?_ ?_
    · unfold rankS
      split
      · exact h1
      · rename_i hne
        exact putL_mono _ _ _ _ _ (by rw [got_len h ha.left hne, got_len h hb.left hne]) (by rw [ha.len, hb.len]) (got_mono h ha.left h2 hne) h1
    · unfold rankS
      split
      · exact h2
      · show a.2 - min a.2 _ ≤ b.2 - min b.2 _
        omega
/-- More to spread: no due is paid less, and no less is left. -/
theorem spread_mono {ds : List DueV} (h : DuesOk ds) {a b : Int} (ha : 0 ≤ a) (hab : a ≤ b) : (∀ i, (spreadL ds a).1.getD i 0 ≤ (spreadL ds b).1.getD i 0) ∧ (spreadL ds a).2 ≤ (spreadL ds b).2 := by
  have base : ∀ c : Int, 0 ≤ c → SpInv ds (10 - ((10 : Nat) : Int)) c (List.replicate ds.length 0, c) := fun c hc =>
    ⟨by simp, fun i => getD_nn (fun x hx => by rw [(List.mem_replicate.1 hx).2]; exact Int.le_refl _) i, hc, by show sumI (List.replicate ds.length 0) + c = c; rw [sumI_replicate]; omega, fun i d _ _ => by
      show (List.replicate ds.length (0 : Int)).getD i 0 = 0
      rw [List.getD_eq_getElem?_getD, List.getElem?_replicate]; split <;> rfl⟩
  exact spreadF_mono h 10 _ _ a b (base a ha) (base b (by omega)) (fun i => Int.le_refl _) hab

/-- Three dues of the ranks 0, 1, 2 that are all paid. -/
theorem spread_three {c d p left : Int} (hc : 0 ≤ c) (hd : 0 ≤ d) (hp : 0 ≤ p) (hl : c + d + p ≤ left) : spreadL [⟨0, c⟩, ⟨1, d⟩, ⟨2, p⟩] left = ([c, d, p], left - c - d - p) := by
  have none : ∀ (r : Int) st, r ≠ 0 → r ≠ 1 → r ≠ 2 → rankS [⟨0, c⟩, ⟨1, d⟩, ⟨2, p⟩] st r = st := fun r st h0 h1 h2 => by
    unfold rankS
    rw [if_pos]
    simp [ownL, hereL, chosenL, idxF, sumI, Ne.symm h0, Ne.symm h1, Ne.symm h2]
  have s0 : ∀ l : Int, 0 ≤ l - c → rankS [⟨0, c⟩, ⟨1, d⟩, ⟨2, p⟩] ([0, 0, 0], l) 0 = ([c, 0, 0], l - c) := fun l hl => by
    have e : ownL [⟨0, c⟩, ⟨1, d⟩, ⟨2, p⟩] 0 = [c] := by simp [ownL, hereL, chosenL, idxF]
    have e2 : hereL [⟨0, c⟩, ⟨1, d⟩, ⟨2, p⟩] 0 = [0] := by simp [hereL, chosenL, idxF]
    unfold rankS gotL
    rw [e, e2]
    simp only [sumI, Int.add_zero]
    by_cases h : c = 0
    · subst h; simp
    · rw [if_neg h, if_neg (by omega), show min l c = c by omega]; rfl
  have s1 : ∀ l : Int, 0 ≤ l - d → rankS [⟨0, c⟩, ⟨1, d⟩, ⟨2, p⟩] ([c, 0, 0], l) 1 = ([c, d, 0], l - d) := fun l hl => by
    have e : ownL [⟨0, c⟩, ⟨1, d⟩, ⟨2, p⟩] 1 = [d] := by simp [ownL, hereL, chosenL, idxF]
    have e2 : hereL [⟨0, c⟩, ⟨1, d⟩, ⟨2, p⟩] 1 = [1] := by simp [hereL, chosenL, idxF]
    unfold rankS gotL
    rw [e, e2]
    simp only [sumI, Int.add_zero]
    by_cases h : d = 0
    · subst h; simp
    · rw [if_neg h, if_neg (by omega), show min l d = d by omega]; rfl
  have s2 : ∀ l : Int, 0 ≤ l - p → rankS [⟨0, c⟩, ⟨1, d⟩, ⟨2, p⟩] ([c, d, 0], l) 2 = ([c, d, p], l - p) := fun l hl => by
    have e : ownL [⟨0, c⟩, ⟨1, d⟩, ⟨2, p⟩] 2 = [p] := by simp [ownL, hereL, chosenL, idxF]
    have e2 : hereL [⟨0, c⟩, ⟨1, d⟩, ⟨2, p⟩] 2 = [2] := by simp [hereL, chosenL, idxF]
    unfold rankS gotL
    rw [e, e2]
    simp only [sumI, Int.add_zero]
    by_cases h : p = 0
    · subst h; simp
    · rw [if_neg h, if_neg (by omega), show min l p = p by omega]; rfl
  unfold spreadL
  simp only [spreadF]
  rw [show (10 : Int) - (((9 : Nat) : Int) + 1) = 0 by omega, show (10 : Int) - (((8 : Nat) : Int) + 1) = 1 by omega, show (10 : Int) - (((7 : Nat) : Int) + 1) = 2 by omega, show (10 : Int) - (((6 : Nat) : Int) + 1) = 3 by omega,
    show (10 : Int) - (((5 : Nat) : Int) + 1) = 4 by omega, show (10 : Int) - (((4 : Nat) : Int) + 1) = 5 by omega, show (10 : Int) - (((3 : Nat) : Int) + 1) = 6 by omega, show (10 : Int) - (((2 : Nat) : Int) + 1) = 7 by omega,
    show (10 : Int) - (((1 : Nat) : Int) + 1) = 8 by omega, show (10 : Int) - (((0 : Nat) : Int) + 1) = 9 by omega]
  rw [show (List.replicate [(⟨0, c⟩ : DueV), ⟨1, d⟩, ⟨2, p⟩].length (0 : Int), left) = (([0, 0, 0] : List Int), left) from rfl, s0 _ (by omega), s1 _ (by omega), s2 _ (by omega)]
  simp only [none _ _ (show (3 : Int) ≠ 0 by decide) (by decide) (by decide), none _ _ (show (4 : Int) ≠ 0 by decide) (by decide) (by decide), none _ _ (show (5 : Int) ≠ 0 by decide) (by decide) (by decide), none _ _ (show (6 : Int) ≠ 0 by decide) (by decide) (by decide),
    none _ _ (show (7 : Int) ≠ 0 by decide) (by decide) (by decide), none _ _ (show (8 : Int) ≠ 0 by decide) (by decide) (by decide), none _ _ (show (9 : Int) ≠ 0 by decide) (by decide) (by decide)]
theorem sp_start {ds : List DueV} {r left : Int} (hl : 0 ≤ left) : SpInv ds r left (List.replicate ds.length 0, left) :=
  ⟨by simp, fun i => getD_nn (fun x hx => by rw [(List.mem_replicate.1 hx).2]; exact Int.le_refl _) i, hl, by show sumI (List.replicate ds.length 0) + left = left; rw [sumI_replicate]; omega, fun i d _ _ => by
    show (List.replicate ds.length (0 : Int)).getD i 0 = 0
    rw [List.getD_eq_getElem?_getD, List.getElem?_replicate]; split <;> rfl⟩
theorem spF_step {ds : List DueV} {r : Nat} (hr : r < 10) (st : List Int × Int) : spreadF ds (10 - r) st = spreadF ds (10 - (r + 1)) (rankS ds st (r : Int)) := by
  rw [show 10 - r = (10 - (r + 1)) + 1 by omega, spreadF, show (10 : Int) - (((10 - (r + 1) : Nat) : Int) + 1) = r by omega]
theorem putL_snoc : ∀ (a : List Nat) (b p : List Int) (i : Nat) (v : Int), a.length = b.length → putL p (a ++ [i]) (b ++ [v]) = (putL p a b).set i v
  | [], [], p, i, v, _ => by simp [putL, putL_nil]
  | [], _ :: _, _, _, _, h => by simp at h
  | _ :: _, [], _, _, _, h => by simp at h
  | j :: a, u :: b, p, i, v, h => by
    rw [List.cons_append, List.cons_append, putL, putL, putL_snoc a b _ i v (by simpa using h)]
theorem own_get {ds : List DueV} {r : Int} {k i : Nat} {d : DueV} (h : (hereL ds r)[k]? = some i) (hd : ds[i]? = some d) : (ownL ds r)[k]? = some d.amount := by
  unfold ownL
  rw [List.getElem?_map, h, Option.map_some, List.getD_eq_getElem?_getD, List.getElem?_map, hd]; rfl
theorem own_le {ds : List DueV} {r m : Int} (hm : 0 ≤ m) (h : ∀ d ∈ ds, d.amount ≤ m) : ∀ x ∈ ownL ds r, x ≤ m := fun x hx => by
  obtain ⟨i, _, rfl⟩ := List.mem_map.1 hx
  by_cases hi : i < (ds.map (·.amount)).length
  · rw [gd_lt hi, List.getElem_map]; exact h _ (List.getElem_mem _)
  · rw [gd_ge (by omega)]; exact hm
end Um
namespace Um
open Go Go.Sx Go.RowKit
theorem dropG {α : Type} {l : List α} {k : Nat} {x : α} (h : l[k]? = some x) : l.drop k = x :: l.drop (k + 1) := by
  obtain ⟨hk, e⟩ := List.getElem?_eq_some_iff.1 h
  rw [List.drop_eq_getElem_cons hk, e]
theorem not_t {b : Bool} (h : (!b) = true) : b = false := by cases b <;> simp_all
theorem not_f {b : Bool} (h : (!b) = false) : b = true := by cases b <;> simp_all
theorem any_drop {α : Type} (q : α → Bool) (l : List α) (k : Nat) (x : α) (h : l[k]? = some x) : (l.drop k).any q = (q x || (l.drop (k + 1)).any q) := by
  rw [dropG h, List.any_cons]
theorem all_drop {α : Type} (q : α → Bool) (l : List α) (k : Nat) (x : α) (h : l[k]? = some x) : (l.drop k).all q = (q x && (l.drop (k + 1)).all q) := by
  rw [dropG h, List.all_cons]
theorem any_take {α : Type} (q : α → Bool) {l : List α} {k : Nat} {x : α} (h : l[k]? = some x) : (l.take (k + 1)).any q = ((l.take k).any q || q x) := by
  rw [List.take_add_one, h, Option.toList_some, List.any_append]; simp
theorem all_take {α : Type} (q : α → Bool) {l : List α} {k : Nat} {x : α} (h : l[k]? = some x) : (l.take (k + 1)).all q = ((l.take k).all q && q x) := by
  rw [List.take_add_one, h, Option.toList_some, List.all_append]; simp
theorem map_take {α β : Type} (f : α → β) {l : List α} {k : Nat} {x : α} (h : l[k]? = some x) : (l.take (k + 1)).map f = (l.take k).map f ++ [f x] := by
  rw [List.take_add_one, h, Option.toList_some, List.map_append]; rfl
def fidx {α : Type} (q : α → Bool) : List α → Int → Int
  | [], _ => -1
  | x :: l, i => if q x = true then i else fidx q l (i + 1)
theorem fidx_drop {α : Type} (q : α → Bool) (l : List α) (k : Nat) (x : α) (h : l[k]? = some x) : fidx q (l.drop k) k = if q x = true then (k : Int) else fidx q (l.drop (k + 1)) ((k + 1 : Nat) : Int) := by
  rw [dropG h, fidx]; rfl
theorem fidx_ge {α : Type} (q : α → Bool) : ∀ (l : List α) (i : Int), 0 ≤ i → decide (0 ≤ fidx q l i) = l.any q
  | [], i, _ => by simp [fidx]
  | x :: l, i, hi => by
    rw [fidx, List.any_cons]
    cases q x with
    | true => simp [hi]
    | false => rw [if_neg (by simp), fidx_ge q l (i + 1) (by omega), Bool.false_or]
theorem fidx_any {α : Type} (q : α → Bool) (l : List α) : decide (0 ≤ fidx q l 0) = l.any q := fidx_ge q l 0 (Int.le_refl _)
def btw (lo n hi : Int) : Bool := decide (lo ≤ n) && decide (n ≤ hi)
theorem btw_t {lo n hi : Int} (h : btw lo n hi = true) : lo ≤ n ∧ n ≤ hi := by
  unfold btw at h; simpa using h
theorem btw_f {lo n hi : Int} (h : btw lo n hi = false) : ¬ (lo ≤ n ∧ n ≤ hi) := by
  unfold btw at h; simp at h; omega
theorem btw_mk {lo n hi : Int} (h : lo ≤ n ∧ n ≤ hi) : btw lo n hi = true := by unfold btw; simp [h]
theorem any_not {α : Type} (q : α → Bool) (l : List α) : l.any (fun x => !q x) = !(l.all q) := by
  induction l with
  | nil => rfl
  | cons x l ih => rw [List.any_cons, List.all_cons, ih]; cases q x <;> simp
theorem all_mem {α : Type} {q : α → Bool} {l : List α} (h : l.all q = true) {x : α} (hx : x ∈ l) : q x = true := List.all_eq_true.1 h x hx
end Um
namespace Um
open Go Go.Sx Go.RowKit
/-- What is made of the first elements of a list, and zeros behind it. -/
def fillF (f : Int → Int) (l : List Int) (k : Nat) : List Int := (l.take k).map f ++ List.replicate (l.length - k) 0
theorem fill_len (f : Int → Int) (l : List Int) (k : Nat) (h : k ≤ l.length) : (fillF f l k).length = l.length := by
  unfold fillF
  rw [List.length_append, List.length_map, List.length_take, List.length_replicate]; omega
theorem fill_set (f : Int → Int) {l : List Int} {k : Nat} {x : Int} (h : l[k]? = some x) : (fillF f l k).set k (f x) = fillF f l (k + 1) := by
  have hk := (List.getElem?_eq_some_iff.1 h).1
  unfold fillF
  rw [map_take f h, show l.length - k = (l.length - (k + 1)) + 1 by omega, List.replicate_succ, List.set_append_right _ _ (by simp; omega), List.length_map, List.length_take, show k - min k l.length = 0 by omega, List.set_cons_zero, List.append_assoc]; rfl
theorem fill_0 (f : Int → Int) (l : List Int) : fillF f l 0 = List.replicate l.length 0 := by simp [fillF]
theorem fill_all (f : Int → Int) (l : List Int) : fillF f l l.length = l.map f := by simp [fillF]
theorem bump_nn {out : List Int} {i : Nat} (h : ∀ x ∈ out, 0 ≤ x) : ∀ x ∈ bump out i, 0 ≤ x := fun x hx => by
  unfold bump at hx
  rcases List.mem_or_eq_of_mem_set hx with hx | rfl
  · exact h x hx
  · have := getD_nn h i; omega
theorem replicate_enInt (n : Nat) : (List.replicate n (0 : Int)).flatMap enInt = List.replicate n (.int .i64 0) := by
  induction n with
  | zero => rfl
  | succ n ih => rw [List.replicate_succ, List.flatMap_cons, ih, List.replicate_succ]; rfl
end Um
namespace Go.Proofs.YtppfniekcgnmjaaGreatDoor.To
open Go Go.Sx Go.RowKit
theorem eq_drop {α : Type} [DecidableEq α] (a b : List α) (k : Nat) (x y : α) (hx : a[k]? = some x) (hy : b[k]? = some y) : decide (a.drop k = b.drop k) = (decide (x = y) && decide (a.drop (k + 1) = b.drop (k + 1))) := by
  obtain ⟨h1, h2⟩ := List.getElem?_eq_some_iff.1 hx
  obtain ⟨h3, h4⟩ := List.getElem?_eq_some_iff.1 hy
  rw [List.drop_eq_getElem_cons h1, h2, List.drop_eq_getElem_cons h3, h4]
  by_cases h : x = y <;> by_cases h5 : a.drop (k + 1) = b.drop (k + 1) <;> simp [h, h5]
theorem eq_len {α : Type} [DecidableEq α] {a b : List α} (h : ¬ (a.length : Int) = b.length) : decide (a = b) = false := decide_eq_false (fun e => h (by rw [e]))
theorem len_of {a b : List Int} (h : ((a.length : Int) == (b.length : Int)) = true) : a.length = b.length := by
  have h2 : (a.length : Int) = b.length := by simpa using h
  omega
theorem same_start (a b : List Int) : (((a.length : Int) == (b.length : Int)) && decide (a.drop 0 = b.drop 0)) = decide (a = b) := by
  rw [List.drop_zero, List.drop_zero]
  by_cases h : (a.length : Int) = b.length
  · rw [show ((a.length : Int) == (b.length : Int)) = true by simpa using h]; rfl
  · rw [show ((a.length : Int) == (b.length : Int)) = false by simpa using h, eq_len h]; rfl
theorem beq_dec {x y : Int} {c : Bool} : ((x == y) && c) = (decide (x = y) && c) := by
  by_cases h : x = y <;> simp [h]
theorem Res.of_lit {α : Type} {w w' : World} {b sz : Nat} {enc : α → List Value} {xs : List α} (h : (litS b sz enc xs).P w' ∧ ∀ i, (litS b sz enc xs).fp i → w.heap.size ≤ i ∧ i < w'.heap.size ∧ ∀ o ∈ ([] : List Fact), ¬ o.fp i) : (sl (fun i => w.heap.size ≤ i ∧ i < w'.heap.size) sz enc (some ⟨b, 0, none⟩) xs).P w' :=
  sl_fp h.1 (fun i hi => ⟨(h.2 i hi).1, (h.2 i hi).2.1⟩)
def ringI (n m : Int) : Int := if m ≤ 0 then 0 else ((n.tmod m) + m).tmod m
theorem ringI_bd (n m : Int) (hm : 1 ≤ m) : 0 ≤ ringI n m ∧ ringI n m < m := by
  unfold ringI
  rw [if_neg (by omega)]
  have h1 : -m < n.tmod m ∧ n.tmod m < m := by
    rcases Int.lt_or_le n 0 with h | h
    · have h2 := Int.tmod_lt_of_pos (-n) (show (0 : Int) < m by omega)
      have h3 := Int.tmod_nonneg m (show 0 ≤ -n by omega)
      rw [Int.neg_tmod] at h2 h3
      omega
    · have h2 := Int.tmod_lt_of_pos n (show (0 : Int) < m by omega)
      have h3 := Int.tmod_nonneg m h
      omega
  exact ⟨Int.tmod_nonneg m (by omega), Int.tmod_lt_of_pos _ (by omega)⟩
def pickI (l : List Int) (i : Int) : Int := if l.length = 0 then 0 else l.getD (ringI i l.length).toNat default
theorem gd_of {α : Type} {l : List α} {i : Nat} {x : α} (d : α) (h : l[i]? = some x) : l.getD i d = x := by rw [List.getD_eq_getElem?_getD, h]; rfl
end Go.Proofs.YtppfniekcgnmjaaGreatDoor.To
namespace Go.Proofs.YtppfniekcgnmjaaGreatDoor.To
open Go Go.Sx Go.RowKit Um
theorem len_ofB {a b : List ByteArray} (h : ((a.length : Int) == (b.length : Int)) = true) : a.length = b.length := by
  have h2 : (a.length : Int) = b.length := by simpa using h
  omega
theorem same_startB (a b : List ByteArray) : (((a.length : Int) == (b.length : Int)) && decide (a.drop 0 = b.drop 0)) = decide (a = b) := by
  rw [List.drop_zero, List.drop_zero]
  by_cases h : (a.length : Int) = b.length
  · rw [show ((a.length : Int) == (b.length : Int)) = true by simpa using h]; rfl
  · rw [show ((a.length : Int) == (b.length : Int)) = false by simpa using h, eq_len h]; rfl
theorem beq_decB {x y : ByteArray} {c : Bool} : ((x == y) && c) = (decide (x = y) && c) := by
  rw [bytes_beq]
  by_cases h : x = y
  · simp [h]
  · rw [decide_eq_false h, decide_eq_false (fun e => h e.symm)]
end Go.Proofs.YtppfniekcgnmjaaGreatDoor.To
namespace Go.Proofs.YtppfniekcgnmjaaGreatDoor.To
open Go.Sx Go.RowKit
set_option maxRecDepth 20000

end Go.Proofs.YtppfniekcgnmjaaGreatDoor.To
namespace Go.Proofs.YtppfniekcgnmjaaGreatDoor.To
open Go.Sx Go.RowKit Um
set_option maxRecDepth 20000
theorem k_Same (a b : List Int) (Aa Ab : Option Addr) (ca cb : Nat) (w : World) (ha : Rd w 1 enInt Aa a) (hb : Rd w 1 enInt Ab b) : Calls Tryz.prog 16 #[.slice Aa a.length ca, .slice Ab b.length cb] w (fun e w' => e = .returned (.bool (decide (a = b))) ∧ Grow w w') := by
  have hla := ha.len
  have hlb := hb.len
  refine enter_pure (args := [.slice Aa a.length ca, .slice Ab b.length cb]) [sl (fun b => b < w.heap.size) 1 enInt Aa a, sl (fun b => b < w.heap.size) 1 enInt Ab b] Tryz.func16 rfl (by rw [Tryz.ntmps16]; simp) (fun g hg => by simp at hg; rcases hg with rfl | rfl; exact ⟨ha, fun _ h => h⟩; exact ⟨hb, fun _ h => h⟩) ?_
  refine cj_seq ?_
  refine cj_regionG (gj_step (y_assign rfl) rfl rfl rfl (gj_nil ?_))
  refine ej_th (cj_seq ?_)
  refine cj_regionG (gj_step (y_move rfl) rfl rfl rfl (gj_step (y_lenA Tryz.underlying26 rfl) rfl rfl rfl (gj_step (y_move rfl) rfl rfl rfl (gj_step (y_lenA Tryz.underlying26 rfl) rfl rfl rfl (gj_step (y_eql rfl rfl) rfl rfl rfl (gj_step (y_assign rfl) rfl rfl rfl (gj_nil ?_)))))))
  refine ej_th (cj_seq (cj_seq ?_))
  refine cj_regionG (gj_step (y_assign rfl) rfl rfl rfl (gj_nil ?_))
  refine ej_th (cj_block ?_)
  refine cj_lpic (X := Nat × Bool) [(0, _), (1, _), (4, _)] (fun ⟨k, ok⟩ => k ≤ a.length ∧ (ok = true → a.length = b.length) ∧ (ok && decide (a.drop k = b.drop k)) = decide (a = b)) (fun ⟨k, ok⟩ => [(5, .bool ok), (6, .int .i64 (k : Nat))]) (fun ⟨k, ok⟩ => a.length - k) (0, (a.length : Int) == (b.length : Int)) (⟨Nat.zero_le _, fun h => len_of h, same_start a b⟩) ⟨rfl, rfl, rfl, rfl, rfl, trivial⟩ ?_
  rintro ⟨k, ok⟩ ⟨hk, hle, hsk⟩
  dsimp only [List.cons_append, List.nil_append]
  refine cj_seq (cj_seq ?_)
  refine cj_regionG (gj_step (y_move rfl) rfl rfl rfl (gj_step (y_move rfl) rfl rfl rfl (gj_g 4 13 17 rfl rfl rfl rfl (fun hg13 => gj_yes rfl rfl rfl (y_move rfl) rfl rfl (gj_yes rfl rfl rfl (y_move rfl) rfl rfl (gj_yes rfl rfl rfl (y_lenA Tryz.underlying26 rfl) rfl rfl (gj_yes rfl rfl rfl (y_lss rfl rfl) rfl rfl (gj_nil rfl))))) (gj_step (y_and rfl rfl rfl) rfl rfl rfl (gj_nil ?_)))))
  refine ej_th ?_
  refine cj_cond rfl (fun h18 => ?_) (fun h18 => ?_)
  · have h18b := h18
    try simp only [sxb] at h18
    rw [Bool.and_eq_true, decide_eq_true_eq] at h18b
    have hok := h18b.1
    have hl2 := hle hok
    have hk2 := h18b.2
    obtain ⟨x, hx⟩ : ∃ x, a[k]? = some x := ⟨_, List.getElem?_eq_getElem (by omega)⟩
    obtain ⟨y, hy⟩ : ∃ y, b[k]? = some y := ⟨_, List.getElem?_eq_getElem (by omega)⟩
    rw [eq_drop a b k x y hx hy, hok, Bool.true_and] at hsk
    refine cj_skip (ej_th (cj_seq (cj_block ?_)))
    refine cj_draw (by kernel_rfl) (by kernel_rfl) (gj_step (y_move rfl) rfl rfl rfl (gj_step (y_move rfl) rfl rfl rfl (gj_step (y_ixR (reads_sl) Tryz.underlying26 Tryz.sizeOf3 rfl rfl (⟨by omega, by omega⟩)) rfl rfl rfl (gj_step (y_ld0 (reads_sl) Tryz.isAgg3 rfl (hx) rfl) rfl rfl rfl (gj_step (y_move rfl) rfl rfl rfl (gj_step (y_move rfl) rfl rfl rfl (gj_step (y_ixR (reads_sl) Tryz.underlying26 Tryz.sizeOf3 rfl rfl (⟨by omega, by omega⟩)) rfl rfl rfl (gj_step (y_ld0 (reads_sl) Tryz.isAgg3 rfl (hy) rfl) rfl rfl rfl (gj_step (y_eql rfl rfl) rfl rfl rfl (gj_step (y_assign rfl) rfl rfl rfl (gj_nil ?_)))))))))))
    refine ej_blk (ej_th ?_)
    refine cj_regionG (gj_step (y_move rfl) rfl rfl rfl (gj_step (y_add rfl rfl (by omega)) rfl rfl rfl (gj_step (y_assign rfl) rfl rfl rfl (gj_nil ?_))))
    exact ej_nx (k + 1, x == y) (by simp only; omega) ⟨by first | omega | (simp only; omega), fun _ => hle hok, by rw [← hsk, beq_dec]⟩ ⟨rfl, rfl, rfl, rfl, rfl, trivial⟩
  · have h18b := h18
    try simp only [sxb] at h18
    rw [Bool.and_eq_false_iff, decide_eq_false_iff_not] at h18b
    refine cj_exit (ej_then_exit (ej_then_exit (ej_blk_hit (ej_th (cj_seq ?_)))))
    refine cj_regionG (gj_step (y_move rfl) rfl rfl rfl (gj_step (y_assign rfl) rfl rfl rfl (gj_nil ?_)))
    refine ej_th (cj_ret ?_)
    refine ej_ret1 rfl Tryz.results16 rfl (fun w' hp => ⟨?_, hp.below⟩)
    rw [← hsk]
    cases hok : ok with
    | false => rfl
    | true =>
      have hl2 := hle hok
      have hk2 : a.length ≤ k := by rcases h18b with h | h; rw [hok] at h; cases h; omega
      rw [List.drop_of_length_le hk2, List.drop_of_length_le (show b.length ≤ k by omega)]; rfl

theorem k_SameTexts (a b : List ByteArray) (Aa Ab : Option Addr) (ca cb : Nat) (w : World) (ha : Rd w 1 enStr Aa a) (hb : Rd w 1 enStr Ab b) : Calls Tryz.prog 62 #[.slice Aa a.length ca, .slice Ab b.length cb] w (fun e w' => e = .returned (.bool (decide (a = b))) ∧ Grow w w') := by
  have hla := ha.len
  have hlb := hb.len
  refine enter_pure (args := [.slice Aa a.length ca, .slice Ab b.length cb]) [sl (fun b => b < w.heap.size) 1 enStr Aa a, sl (fun b => b < w.heap.size) 1 enStr Ab b] Tryz.func62 rfl (by rw [Tryz.ntmps62]; simp) (fun g hg => by simp at hg; rcases hg with rfl | rfl; exact ⟨ha, fun _ h => h⟩; exact ⟨hb, fun _ h => h⟩) ?_
  refine cj_seq ?_
  refine cj_regionG (gj_step (y_assign rfl) rfl rfl rfl (gj_nil ?_))
  refine ej_th (cj_seq ?_)
  refine cj_regionG (gj_step (y_move rfl) rfl rfl rfl (gj_step (y_lenA Tryz.underlying142 rfl) rfl rfl rfl (gj_step (y_move rfl) rfl rfl rfl (gj_step (y_lenA Tryz.underlying142 rfl) rfl rfl rfl (gj_step (y_eql rfl rfl) rfl rfl rfl (gj_step (y_assign rfl) rfl rfl rfl (gj_nil ?_)))))))
  refine ej_th (cj_seq (cj_seq ?_))
  refine cj_regionG (gj_step (y_assign rfl) rfl rfl rfl (gj_nil ?_))
  refine ej_th (cj_block ?_)
  refine cj_lpic (X := Nat × Bool) [(0, _), (1, _), (4, _)] (fun ⟨k, ok⟩ => k ≤ a.length ∧ (ok = true → a.length = b.length) ∧ (ok && decide (a.drop k = b.drop k)) = decide (a = b)) (fun ⟨k, ok⟩ => [(5, .bool ok), (6, .int .i64 (k : Nat))]) (fun ⟨k, ok⟩ => a.length - k) (0, (a.length : Int) == (b.length : Int)) (⟨Nat.zero_le _, fun h => len_ofB h, same_startB a b⟩) ⟨rfl, rfl, rfl, rfl, rfl, trivial⟩ ?_
  rintro ⟨k, ok⟩ ⟨hk, hle, hsk⟩
  dsimp only [List.cons_append, List.nil_append]
  refine cj_seq (cj_seq ?_)
  refine cj_regionG (gj_step (y_move rfl) rfl rfl rfl (gj_step (y_move rfl) rfl rfl rfl (gj_g 4 13 17 rfl rfl rfl rfl (fun hg13 => gj_yes rfl rfl rfl (y_move rfl) rfl rfl (gj_yes rfl rfl rfl (y_move rfl) rfl rfl (gj_yes rfl rfl rfl (y_lenA Tryz.underlying142 rfl) rfl rfl (gj_yes rfl rfl rfl (y_lss rfl rfl) rfl rfl (gj_nil rfl))))) (gj_step (y_and rfl rfl rfl) rfl rfl rfl (gj_nil ?_)))))
  refine ej_th ?_
  refine cj_cond rfl (fun h18 => ?_) (fun h18 => ?_)
  · have h18b := h18
    try simp only [sxb] at h18
    rw [Bool.and_eq_true, decide_eq_true_eq] at h18b
    have hok := h18b.1
    have hl2 := hle hok
    have hk2 := h18b.2
    obtain ⟨x, hx⟩ : ∃ x, a[k]? = some x := ⟨_, List.getElem?_eq_getElem (by omega)⟩
    obtain ⟨y, hy⟩ : ∃ y, b[k]? = some y := ⟨_, List.getElem?_eq_getElem (by omega)⟩
    rw [eq_drop a b k x y hx hy, hok, Bool.true_and] at hsk
    refine cj_skip (ej_th (cj_seq (cj_block ?_)))
    refine cj_draw (by kernel_rfl) (by kernel_rfl) (gj_step (y_move rfl) rfl rfl rfl (gj_step (y_move rfl) rfl rfl rfl (gj_step (y_ixR (reads_sl) Tryz.underlying142 Tryz.sizeOf9 rfl rfl (⟨by omega, by omega⟩)) rfl rfl rfl (gj_step (y_ld0 (reads_sl) Tryz.isAgg9 rfl (hx) rfl) rfl rfl rfl (gj_step (y_move rfl) rfl rfl rfl (gj_step (y_move rfl) rfl rfl rfl (gj_step (y_ixR (reads_sl) Tryz.underlying142 Tryz.sizeOf9 rfl rfl (⟨by omega, by omega⟩)) rfl rfl rfl (gj_step (y_ld0 (reads_sl) Tryz.isAgg9 rfl (hy) rfl) rfl rfl rfl (gj_step (y_eqlS rfl rfl) rfl rfl rfl (gj_step (y_assign rfl) rfl rfl rfl (gj_nil ?_)))))))))))
    refine ej_blk (ej_th ?_)
    refine cj_regionG (gj_step (y_move rfl) rfl rfl rfl (gj_step (y_add rfl rfl (by omega)) rfl rfl rfl (gj_step (y_assign rfl) rfl rfl rfl (gj_nil ?_))))
    exact ej_nx (k + 1, x == y) (by simp only; omega) ⟨by first | omega | (simp only; omega), fun _ => hle hok, by rw [← hsk, beq_decB]⟩ ⟨rfl, rfl, rfl, rfl, rfl, trivial⟩
  · have h18b := h18
    try simp only [sxb] at h18
    rw [Bool.and_eq_false_iff, decide_eq_false_iff_not] at h18b
    refine cj_exit (ej_then_exit (ej_then_exit (ej_blk_hit (ej_th (cj_seq ?_)))))
    refine cj_regionG (gj_step (y_move rfl) rfl rfl rfl (gj_step (y_assign rfl) rfl rfl rfl (gj_nil ?_)))
    refine ej_th (cj_ret ?_)
    refine ej_ret1 rfl Tryz.results62 rfl (fun w' hp => ⟨?_, hp.below⟩)
    rw [← hsk]
    cases hok : ok with
    | false => rfl
    | true =>
      have hl2 := hle hok
      have hk2 : a.length ≤ k := by rcases h18b with h | h; rw [hok] at h; cases h; omega
      rw [List.drop_of_length_le hk2, List.drop_of_length_le (show b.length ≤ k by omega)]; rfl

end Go.Proofs.YtppfniekcgnmjaaGreatDoor.To
namespace Go.Proofs.YtppfniekcgnmjaaGreatDoor.Pl
open Go.Sx Go.RowKit
set_option maxRecDepth 20000

end Go.Proofs.YtppfniekcgnmjaaGreatDoor.Pl
namespace Go.Proofs.YtppfniekcgnmjaaGreatDoor.Pl
open Go.Sx Go.RowKit
set_option maxRecDepth 20000

end Go.Proofs.YtppfniekcgnmjaaGreatDoor.Pl
namespace Go.Proofs.YtppfniekcgnmjaaGreatDoor.Pl
open Go.Sx Go.RowKit

theorem not_t {b : Bool} (h : (!b) = true) : b = false := by cases b <;> simp_all
theorem not_f {b : Bool} (h : (!b) = false) : b = true := by cases b <;> simp_all
/-- the first index of a number, or -1 -/
def seek : List Int → Int → Int → Int
  | [], _, _ => -1
  | x :: l, n, i => if x = n then i else seek l n (i + 1)
theorem seek_drop (l : List Int) (n : Int) (k : Nat) (x : Int) (h : l[k]? = some x) : seek (l.drop k) n k = if x = n then (k : Int) else seek (l.drop (k + 1)) n ((k + 1 : Nat) : Int) := by
  obtain ⟨h1, h2⟩ := List.getElem?_eq_some_iff.1 h
  rw [List.drop_eq_getElem_cons h1, h2, seek]; rfl
def btw (lo n hi : Int) : Bool := decide (lo ≤ n) && decide (n ≤ hi)
theorem all_drop {α : Type} (p : α → Bool) (l : List α) (k : Nat) (x : α) (h : l[k]? = some x) : (l.drop k).all p = (p x && (l.drop (k + 1)).all p) := by
  obtain ⟨h1, h2⟩ := List.getElem?_eq_some_iff.1 h
  rw [List.drop_eq_getElem_cons h1, h2, List.all_cons]
def letB (n : Int) : Bool := decide (97 ≤ n) && decide (n ≤ 122)
def okB (n : Int) : Bool := letB n || (decide (48 ≤ n) && decide (n ≤ 57)) || (n == 45)
abbrev bsOf (s : ByteArray) : List UInt8 := s.data.toList
def okBs (b : UInt8) : Bool := okB b.toNat
def isW (s : ByteArray) : Bool := decide (1 ≤ (s.size : Int)) && decide ((s.size : Int) ≤ 16) && letB ((bsOf s).getD 0 0).toNat && (bsOf s).all okBs
theorem bs_get {s : ByteArray} {k : Nat} {b : UInt8} (h : (bsOf s)[k]? = some b) : s[k]? = some b := by
  have h1 : k < s.size := by have := (List.getElem?_eq_some_iff.1 h).1; simpa using this
  rw [getElem?_pos s k h1]
  obtain ⟨h2, h3⟩ := List.getElem?_eq_some_iff.1 h
  rw [← h3]; rfl
theorem bs_len (s : ByteArray) : (bsOf s).length = s.size := by simp
theorem bs_first {s : ByteArray} (h : 1 ≤ s.size) : s[(0 : Int).toNat]? = some ((bsOf s).getD 0 0) := by
  refine bs_get ?_
  rw [List.getD_eq_getElem?_getD]
  have : 0 < (bsOf s).length := by rw [bs_len]; omega
  show (bsOf s)[0]? = _
  rw [List.getElem?_eq_getElem this]; rfl
theorem okB_V (n : Int) : (((decide (n < 97) || decide (122 < n)) && (decide (n < 48) || decide (57 < n))) && (n != 45)) = !(okB n) := by
  have e1 : decide (n < 97) = !(decide (97 ≤ n)) := by by_cases h : 97 ≤ n; (rw [decide_eq_true h, decide_eq_false (by omega)]; rfl); (rw [decide_eq_false h, decide_eq_true (by omega)]; rfl)
  have e2 : decide (122 < n) = !(decide (n ≤ 122)) := by by_cases h : n ≤ 122; (rw [decide_eq_true h, decide_eq_false (by omega)]; rfl); (rw [decide_eq_false h, decide_eq_true (by omega)]; rfl)
  have e3 : decide (n < 48) = !(decide (48 ≤ n)) := by by_cases h : 48 ≤ n; (rw [decide_eq_true h, decide_eq_false (by omega)]; rfl); (rw [decide_eq_false h, decide_eq_true (by omega)]; rfl)
  have e4 : decide (57 < n) = !(decide (n ≤ 57)) := by by_cases h : n ≤ 57; (rw [decide_eq_true h, decide_eq_false (by omega)]; rfl); (rw [decide_eq_false h, decide_eq_true (by omega)]; rfl)
  unfold okB letB
  rw [e1, e2, e3, e4]
  cases decide (97 ≤ n) <;> cases decide (n ≤ 122) <;> cases decide (48 ≤ n) <;> cases decide (n ≤ 57) <;> cases h : (n == 45) <;> simp [bne, h]
theorem okB_R (n : Int) (k : Nat) : ((!(decide (97 ≤ n) && decide (n ≤ 122))) && (((k : Int) == 0) || ((n != 45) && !(decide (48 ≤ n) && decide (n ≤ 57))))) = !(okB n && (letB n || !((k : Int) == 0))) := by
  unfold okB letB
  cases decide (97 ≤ n) <;> cases decide (n ≤ 122) <;> cases decide (48 ≤ n) <;> cases decide (n ≤ 57) <;> cases h : (n == 45) <;> cases ((k : Int) == 0) <;> simp [bne, h]

theorem bytes_eq {a b : ByteArray} (h : (a == b) = true) : a = b := by rw [bytes_beq] at h; exact (of_decide_eq_true h).symm
theorem bytes_ne {a b : ByteArray} (h : (a == b) = false) : ¬ a = b := by rw [bytes_beq] at h; exact fun e => of_decide_eq_false h e.symm
end Go.Proofs.YtppfniekcgnmjaaGreatDoor.Pl
namespace Go.Proofs.YtppfniekcgnmjaaGreatDoor.Pl
open Go.Sx Go.RowKit
set_option maxRecDepth 20000
theorem k_From (lo n hi : Int) (w : World)  : Calls Tryz.prog 8 #[.int .i64 lo, .int .i64 n, .int .i64 hi] w (fun e w' => e = .returned (.bool (decide (lo ≤ n) && decide (n ≤ hi))) ∧ Grow w w') := by
  refine enter_pure (args := [.int .i64 lo, .int .i64 n, .int .i64 hi]) [] Tryz.func8 rfl (by rw [Tryz.ntmps8]; simp) (by simp) ?_
  refine cj_seq ?_
  refine cj_regionG (gj_step (y_assign rfl) rfl rfl rfl (gj_nil ?_))
  refine ej_th (cj_seq ?_)
  refine cj_regionG (gj_step (y_move rfl) rfl rfl rfl (gj_step (y_move rfl) rfl rfl rfl (gj_step (y_leq rfl rfl) rfl rfl rfl (gj_step (y_move rfl) rfl rfl rfl (gj_g 3 10 13 rfl rfl rfl rfl (fun hg10 => gj_yes rfl rfl rfl (y_move rfl) rfl rfl (gj_yes rfl rfl rfl (y_move rfl) rfl rfl (gj_yes rfl rfl rfl (y_leq rfl rfl) rfl rfl (gj_nil rfl)))) (gj_step (y_and rfl rfl rfl) rfl rfl rfl (gj_step (y_assign rfl) rfl rfl rfl (gj_nil ?_))))))))
  refine ej_th (cj_ret ?_)
  exact ej_ret1 rfl Tryz.results8 rfl (fun w' hp => ⟨rfl, hp.below⟩)

end Go.Proofs.YtppfniekcgnmjaaGreatDoor.Pl
namespace Go.Proofs.YtppfniekcgnmjaaGreatDoor.Pl
open Go.Sx Go.RowKit
set_option maxRecDepth 20000
theorem k_IsWord (s : ByteArray) (w : World) (hs : s.size ≤ 9223372036854775807) : Calls Tryz.prog 36 #[.string s] w (fun e w' => e = .returned (.bool (isW s)) ∧ Grow w w') := by
  refine enter_pure (args := [.string s]) [] Tryz.func36 rfl (by rw [Tryz.ntmps36]; simp) (by simp) ?_
  refine cj_seq ?_
  refine cj_regionG (gj_step (y_assign rfl) rfl rfl rfl (gj_nil ?_))
  refine ej_th (cj_seq (cj_seq ?_))
  refine cj_regionG (gj_step (y_move rfl) rfl rfl rfl (gj_step (y_lenS Tryz.underlying9 rfl) rfl rfl rfl (gj_step (y_eql rfl rfl) rfl rfl rfl (gj_step (y_move rfl) rfl rfl rfl (gj_g 3 8 11 rfl rfl rfl rfl (fun hg8 => gj_yes rfl rfl rfl (y_move rfl) rfl rfl (gj_yes rfl rfl rfl (y_lenS Tryz.underlying9 rfl) rfl rfl (gj_yes rfl rfl rfl (y_gtr rfl rfl) rfl rfl (gj_nil rfl)))) (gj_step (y_or rfl rfl rfl) rfl rfl rfl (gj_step (y_move rfl) rfl rfl rfl (gj_g 3 13 16 rfl rfl rfl rfl (fun hg13 => gj_yes rfl rfl rfl (y_move rfl) rfl rfl (gj_yes rfl rfl rfl (y_indexS Tryz.underlying9 rfl rfl (by omega) (bs_first (by have := hg13; simp only [sxb] at this; omega))) rfl rfl (gj_yes rfl rfl rfl (y_lss rfl rfl) rfl rfl (gj_nil rfl)))) (gj_step (y_or rfl rfl rfl) rfl rfl rfl (gj_step (y_move rfl) rfl rfl rfl (gj_g 3 18 21 rfl rfl rfl rfl (fun hg18 => gj_yes rfl rfl rfl (y_move rfl) rfl rfl (gj_yes rfl rfl rfl (y_indexS Tryz.underlying9 rfl rfl (by omega) (bs_first (by have := hg18; simp only [sxb] at this; omega))) rfl rfl (gj_yes rfl rfl rfl (y_gtr rfl rfl) rfl rfl (gj_nil rfl)))) (gj_step (y_or rfl rfl rfl) rfl rfl rfl (gj_nil ?_)))))))))))))
  refine ej_th ?_
  refine cj_cond rfl (fun h22 => ?_) (fun h22 => ?_)
  · have h22b := h22
    try simp only [sxb] at h22
    refine cj_seq ?_
    refine cj_regionG (gj_step (y_assign rfl) rfl rfl rfl (gj_nil ?_))
    refine ej_th (cj_ret (ej_then_ret ?_))
    refine ej_ret1 rfl Tryz.results36 rfl (fun w' hp => ⟨?_, hp.below⟩)
    have : isW s = false := by
      unfold isW letB
      simp only [Bool.and_eq_false_iff, decide_eq_false_iff_not]
      omega
    rw [this]
  · have h22b := h22
    try simp only [sxb] at h22
    simp only [Bool.or_eq_false_iff, decide_eq_false_iff_not] at h22b
    refine cj_skip (ej_th (cj_seq (cj_seq ?_)))
    refine cj_regionG (gj_step (y_move rfl) rfl rfl rfl (gj_step (y_lenS Tryz.underlying9 rfl) rfl rfl rfl (gj_step (y_move rfl) rfl rfl rfl (gj_nil ?_))))
    refine ej_th (cj_block ?_)
    refine cj_lpic (X := Nat) [(0, _), (24, _)] (fun k => k ≤ s.size ∧ ((bsOf s).drop k).all okBs = (bsOf s).all okBs) (fun k => [(25, .int .i64 k)]) (fun k => s.size - k) 0 (⟨Nat.zero_le _, rfl⟩) ⟨rfl, rfl, rfl, trivial⟩ ?_
    rintro k ⟨hk, hl⟩
    dsimp only [List.cons_append, List.nil_append]
    refine cj_seq ?_
    refine cj_regionG (gj_step (y_lss rfl rfl) rfl rfl rfl (gj_nil ?_))
    refine ej_th (cj_seq ?_)
    refine cj_cond rfl (fun h26 => ?_) (fun h26 => ?_)
    · have h26b := h26
      try simp only [sxb] at h26
      have hbl := bs_len s
      obtain ⟨b, hx⟩ : ∃ b, (bsOf s)[k]? = some b := ⟨_, List.getElem?_eq_getElem (by omega)⟩
      rw [all_drop okBs (bsOf s) k b hx] at hl
      refine cj_skip (ej_th (cj_seq (cj_block (cj_seq ?_))))
      refine cj_regionG (gj_step (y_move rfl) rfl rfl rfl (gj_step (y_assign rfl) rfl rfl rfl (gj_nil ?_)))
      refine ej_th (cj_seq ?_)
      refine cj_regionG (gj_step (y_move rfl) rfl rfl rfl (gj_step (y_move rfl) rfl rfl rfl (gj_step (y_indexS Tryz.underlying9 rfl rfl (by omega) (bs_get hx)) rfl rfl rfl (gj_step (y_assign rfl) rfl rfl rfl (gj_nil ?_)))))
      refine ej_th (cj_seq ?_)
      refine cj_regionG (gj_step (y_move rfl) rfl rfl rfl (gj_step (y_lss rfl rfl) rfl rfl rfl (gj_step (y_move rfl) rfl rfl rfl (gj_g 2 33 35 rfl rfl rfl rfl (fun hg33 => gj_yes rfl rfl rfl (y_move rfl) rfl rfl (gj_yes rfl rfl rfl (y_gtr rfl rfl) rfl rfl (gj_nil rfl))) (gj_step (y_or rfl rfl rfl) rfl rfl rfl (gj_step (y_move rfl) rfl rfl rfl (gj_g 6 37 43 rfl rfl rfl rfl (fun hg37 => gj_yes rfl rfl rfl (y_move rfl) rfl rfl (gj_yes rfl rfl rfl (y_lss rfl rfl) rfl rfl (gj_yes rfl rfl rfl (y_move rfl) rfl rfl (gj_g 2 40 42 rfl rfl rfl rfl (fun hg40 => gj_yes rfl rfl rfl (y_move rfl) rfl rfl (gj_yes rfl rfl rfl (y_gtr rfl rfl) rfl rfl (gj_nil rfl))) (gj_yes rfl rfl rfl (y_or rfl rfl rfl) rfl rfl (gj_nil rfl)))))) (gj_step (y_and rfl rfl rfl) rfl rfl rfl (gj_step (y_move rfl) rfl rfl rfl (gj_g 2 45 47 rfl rfl rfl rfl (fun hg45 => gj_yes rfl rfl rfl (y_move rfl) rfl rfl (gj_yes rfl rfl rfl (y_neq rfl rfl) rfl rfl (gj_nil rfl))) (gj_step (y_and rfl rfl rfl) rfl rfl rfl (gj_nil ?_))))))))))))
      refine ej_th ?_
      refine cj_cond rfl (fun h48 => ?_) (fun h48 => ?_)
      · have h48b := h48
        try simp only [sxb] at h48
        refine cj_seq ?_
        refine cj_regionG (gj_step (y_assign rfl) rfl rfl rfl (gj_nil ?_))
        refine ej_th (cj_ret (ej_blk_ret (ej_then_ret (ej_then_ret (ej_blk_ret (ej_then_ret ?_))))))
        exact ej_ret1 rfl Tryz.results36 rfl (fun w' hp => ⟨by rw [isW, ← hl, show okBs b = false from not_t ((okB_V b.toNat).symm.trans h48b)]; simp, hp.below⟩)
      · have h48b := h48
        try simp only [sxb] at h48
        refine cj_skip (ej_blk (ej_th ?_))
        refine cj_regionG (gj_step (y_add rfl rfl (by omega)) rfl rfl rfl (gj_step (y_move rfl) rfl rfl rfl (gj_nil ?_)))
        refine ej_nx (k + 1) (by omega) ⟨by omega, ?_⟩ ⟨rfl, rfl, rfl, trivial⟩
        rw [← hl, show okBs b = true from not_f ((okB_V b.toNat).symm.trans h48b), Bool.true_and]
    · have h26b := h26
      try simp only [sxb] at h26
      refine cj_exit (ej_then_exit (ej_then_exit (ej_blk_hit (ej_th (cj_seq ?_)))))
      refine cj_regionG (gj_step (y_assign rfl) rfl rfl rfl (gj_nil ?_))
      refine ej_th (cj_ret ?_)
      refine ej_ret1 rfl Tryz.results36 rfl (fun w' hp => ⟨?_, hp.below⟩)
      have hbl := bs_len s
      rw [List.drop_of_length_le (by omega)] at hl
      rw [isW, ← hl, decide_eq_true (by omega), decide_eq_true (by omega)]
      unfold letB
      rw [decide_eq_true (by omega), decide_eq_true (by omega)]; rfl

end Go.Proofs.YtppfniekcgnmjaaGreatDoor.Pl
namespace Go.Proofs.YtppfniekcgnmjaaGreatDoor.Pl
open Go.Sx Go.RowKit

abbrev smS (l : List ByteArray) : Prop := ∀ s ∈ l, s.size ≤ 9223372036854775807
def hasW (l : List ByteArray) (s : ByteArray) : Bool := l.any (fun q => decide (q = s))
def wordsG : List ByteArray → List ByteArray → Bool
  | _, [] => true
  | pre, s :: l => (isW s && !(hasW pre s)) && wordsG (pre ++ [s]) l
def wordsB (l : List ByteArray) : Bool := wordsG [] l
theorem wordsG_drop (l : List ByteArray) (k : Nat) (s : ByteArray) (h : l[k]? = some s) : wordsG (l.take k) (l.drop k) = ((isW s && !(hasW (l.take k) s)) && wordsG (l.take (k + 1)) (l.drop (k + 1))) := by
  obtain ⟨h1, h2⟩ := List.getElem?_eq_some_iff.1 h
  rw [List.drop_eq_getElem_cons h1, h2, wordsG, List.take_add_one, h]; rfl
abbrev evB (b : Bool) : Value := .bool b
def mapW (l : List ByteArray) : List (ByteArray × Bool) := l.map (fun s => (s, true))
theorem getL_mapW (l : List ByteArray) (s : ByteArray) : (getL (mapW l) s).getD false = hasW l s := by
  induction l with
  | nil => rfl
  | cons q l ih =>
    show (if q = s then some true else getL (mapW l) s).getD false = (decide (q = s) || hasW l s)
    by_cases h : q = s
    · rw [if_pos h, decide_eq_true h]; rfl
    · rw [if_neg h, ih, decide_eq_false h]; rfl
theorem putL_newW (l : List ByteArray) (s : ByteArray) (h : hasW l s = false) : putL (mapW l) s true = mapW (l ++ [s]) := by
  induction l with
  | nil => rfl
  | cons q l ih =>
    simp only [hasW, List.any_cons, Bool.or_eq_false_iff, decide_eq_false_iff_not] at h
    show (if q = s then _ else _) = _
    rw [if_neg h.1]
    show (q, true) :: putL (mapW l) s true = _
    rw [ih h.2]; rfl
theorem words_V (pre : List ByteArray) (s : ByteArray) : (!(isW s) || hasW pre s) = !(isW s && !(hasW pre s)) := by
  cases isW s <;> cases hasW pre s <;> rfl
/-- where a text is in a list; -1: nowhere -/
def firstS (s : ByteArray) : List ByteArray → Nat → Int
  | [], _ => -1
  | q :: l, n => if q = s then n else firstS s l (n + 1)
theorem firstS_drop (s : ByteArray) (l : List ByteArray) (k : Nat) (q : ByteArray) (h : l[k]? = some q) : firstS s (l.drop k) k = if q = s then (k : Int) else firstS s (l.drop (k + 1)) (k + 1) := by
  obtain ⟨h1, h2⟩ := List.getElem?_eq_some_iff.1 h
  rw [List.drop_eq_getElem_cons h1, h2, firstS]
theorem firstS_has (s : ByteArray) (l : List ByteArray) (n : Nat) : decide (0 ≤ firstS s l n) = hasW l s := by
  induction l generalizing n with
  | nil => rfl
  | cons q l ih =>
    rw [firstS]
    show _ = (decide (q = s) || hasW l s)
    by_cases h : q = s
    · rw [if_pos h, decide_eq_true h, Bool.true_or]; exact decide_eq_true (by omega)
    · rw [if_neg h, ih, decide_eq_false h, Bool.false_or]
/-- where the first text is that does not lie in another list; -1: nowhere -/
def firstN (ns : List ByteArray) : List ByteArray → Nat → Int
  | [], _ => -1
  | q :: l, n => if hasW ns q = false then n else firstN ns l (n + 1)
theorem firstN_drop (ns l : List ByteArray) (k : Nat) (q : ByteArray) (h : l[k]? = some q) : firstN ns (l.drop k) k = if hasW ns q = false then (k : Int) else firstN ns (l.drop (k + 1)) (k + 1) := by
  obtain ⟨h1, h2⟩ := List.getElem?_eq_some_iff.1 h
  rw [List.drop_eq_getElem_cons h1, h2, firstN]
theorem firstN_all (ns l : List ByteArray) (n : Nat) : decide (0 ≤ firstN ns l n) = !(l.all (hasW ns)) := by
  induction l generalizing n with
  | nil => rfl
  | cons q l ih =>
    rw [firstN, List.all_cons]
    cases h : hasW ns q with
    | false => rw [if_pos rfl]; exact decide_eq_true (by omega)
    | true => rw [if_neg (by simp), ih, Bool.true_and]
end Go.Proofs.YtppfniekcgnmjaaGreatDoor.Pl
namespace Go.Proofs.YtppfniekcgnmjaaGreatDoor.Pl
open Go.Sx Go.RowKit

/-- a trait, and where its values lie -/
structure TraitV where
  name : ByteArray
  A : Option Addr
  c : Nat
  vals : List ByteArray
  must : Bool
instance : Inhabited TraitV := ⟨⟨⟨#[]⟩, none, 0, [], false⟩⟩
abbrev encTr (t : TraitV) : List Value := [.string t.name, .slice t.A t.vals.length t.c, .bool t.must]
structure GoodT (w : World) (t : TraitV) : Prop where
  rd : Rd w 1 enStr t.A t.vals
  sm : smS t.vals
  nm : t.name.size ≤ 9223372036854775807
theorem GoodT.mono {w w' : World} {t : TraitV} (h : GoodT w t) (hg : Grow w w') : GoodT w' t := ⟨h.rd.mono hg, h.sm, h.nm⟩
/-- a class, and where its traits and parts lie -/
structure ClassV where
  name : ByteArray
  At : Option Addr
  ct : Nat
  traits : List TraitV
  Ap : Option Addr
  cp : Nat
  parts : List ByteArray
  most : Int
abbrev zC : ClassV := ⟨⟨#[]⟩, none, 0, [], none, 0, [], 0⟩
instance : Inhabited ClassV := ⟨zC⟩
abbrev encCl (c : ClassV) : List Value := [.string c.name, .slice c.At c.traits.length c.ct, .slice c.Ap c.parts.length c.cp, .int .i64 c.most]
abbrev evC (c : ClassV) : Value := .agg #[.string c.name, .slice c.At c.traits.length c.ct, .slice c.Ap c.parts.length c.cp, .int .i64 c.most]
structure GoodC (w : World) (c : ClassV) : Prop where
  rt : Rd w 3 encTr c.At c.traits
  tr : ∀ t ∈ c.traits, GoodT w t
  rp : Rd w 1 enStr c.Ap c.parts
  sm : smS c.parts
  nm : c.name.size ≤ 9223372036854775807
theorem GoodC.mono {w w' : World} {c : ClassV} (h : GoodC w c) (hg : Grow w w') : GoodC w' c := ⟨h.rt.mono hg, fun t ht => (h.tr t ht).mono hg, h.rp.mono hg, h.sm, h.nm⟩
theorem GoodC.zero (w : World) : GoodC w zC := ⟨.nil, by simp, .nil, fun s hs => (by cases hs), by decide⟩
/-- an item, and where what is said of it and its parts lie -/
inductive ItemV where
  | mk (cls : ByteArray) (As : Option Addr) (cs : Nat) (says : List ByteArray) (Ap : Option Addr) (cp : Nat) (parts : List ItemV)
namespace ItemV
def cls : ItemV → ByteArray | mk c .. => c
def As : ItemV → Option Addr | mk _ a .. => a
def cs : ItemV → Nat | mk _ _ c .. => c
def says : ItemV → List ByteArray | mk _ _ _ s .. => s
def Ap : ItemV → Option Addr | mk _ _ _ _ a .. => a
def cp : ItemV → Nat | mk _ _ _ _ _ c _ => c
def parts : ItemV → List ItemV | mk _ _ _ _ _ _ p => p
end ItemV
instance : Inhabited ItemV := ⟨.mk ⟨#[]⟩ none 0 [] none 0 []⟩
abbrev encIt (x : ItemV) : List Value := [.string x.cls, .slice x.As x.says.length x.cs, .slice x.Ap x.parts.length x.cp]
abbrev evI (x : ItemV) : Value := .agg #[.string x.cls, .slice x.As x.says.length x.cs, .slice x.Ap x.parts.length x.cp]
inductive GoodI (w : World) : ItemV → Prop
  | mk {x : ItemV} (hs : Rd w 1 enStr x.As x.says) (hp : Rd w 3 encIt x.Ap x.parts) (hn : x.cls.size ≤ 9223372036854775807) (hm : smS x.says) (hr : ∀ p ∈ x.parts, GoodI w p) : GoodI w x
theorem GoodI.rs {w : World} {x : ItemV} (h : GoodI w x) : Rd w 1 enStr x.As x.says := by cases h; assumption
theorem GoodI.rp {w : World} {x : ItemV} (h : GoodI w x) : Rd w 3 encIt x.Ap x.parts := by cases h; assumption
theorem GoodI.sm {w : World} {x : ItemV} (h : GoodI w x) : smS x.says := by cases h; assumption
theorem GoodI.nm {w : World} {x : ItemV} (h : GoodI w x) : x.cls.size ≤ 9223372036854775807 := by cases h; assumption
theorem GoodI.pt {w : World} {x : ItemV} (h : GoodI w x) : ∀ p ∈ x.parts, GoodI w p := by cases h; assumption
theorem GoodI.mono {w w' : World} {x : ItemV} (h : GoodI w x) (hg : Grow w w') : GoodI w' x := by
  induction h with
  | mk hs hp hn hm _ ih => exact .mk (hs.mono hg) (hp.mono hg) hn hm ih

/-! ### What the program says of a grammar -/
def traitOk (t : TraitV) : Bool := !((!(decide (1 ≤ (t.vals.length : Int)) && decide ((t.vals.length : Int) ≤ 8))) || !(wordsB t.vals))
def class1 (c : ClassV) : Bool := !(((decide (8 < (c.traits.length : Int)) || !(decide (0 ≤ c.most) && decide (c.most ≤ 6))) || (((c.parts.length : Int) == 0) && (c.most != 0))) || !(wordsB c.parts))
def classOk (ns : List ByteArray) (c : ClassV) : Bool := class1 c && (c.parts.all (hasW ns) && (c.traits.all traitOk && wordsB (c.traits.map (·.name))))
theorem class1_tr {c : ClassV} (h : class1 c = true) : (c.traits.length : Int) ≤ 8 := by
  unfold class1 at h
  simp only [Bool.not_eq_true', Bool.or_eq_false_iff, decide_eq_false_iff_not] at h
  omega
def namesC (l : List ClassV) : List ByteArray := l.map (·.name)
def gramOk (l : List ClassV) : Bool := (decide (1 ≤ (l.length : Int)) && decide ((l.length : Int) ≤ 12)) && (wordsB (namesC l) && l.all (classOk (namesC l)))
def putAll : List (ByteArray × ClassV) → List ClassV → List (ByteArray × ClassV)
  | m, [] => m
  | m, c :: l => putAll (putL m c.name c) l
theorem putAll_add (m : List (ByteArray × ClassV)) (l : List ClassV) (c : ClassV) : putAll m (l ++ [c]) = putL (putAll m l) c.name c := by
  induction l generalizing m with
  | nil => rfl
  | cons d l ih => exact ih _
def gramM (l : List ClassV) : List (ByteArray × ClassV) := putAll [] l
def gramE (l : List ClassV) : Int := if gramOk l then 0 else 10

/-! ### What the program says of a description -/
def saysOne (t : TraitV) (s : ByteArray) : Bool := !(((s == ⟨#[]⟩) && t.must) || ((!(s == ⟨#[]⟩)) && !(hasW t.vals s)))
def saysOk : List TraitV → List ByteArray → Bool
  | t :: ts, s :: ss => saysOne t s && saysOk ts ss
  | _, _ => true
theorem saysOk_drop (ts : List TraitV) (ss : List ByteArray) (k : Nat) (t : TraitV) (s : ByteArray) (ht : ts[k]? = some t) (hs : ss[k]? = some s) : saysOk (ts.drop k) (ss.drop k) = (saysOne t s && saysOk (ts.drop (k + 1)) (ss.drop (k + 1))) := by
  obtain ⟨h1, h2⟩ := List.getElem?_eq_some_iff.1 ht
  obtain ⟨h3, h4⟩ := List.getElem?_eq_some_iff.1 hs
  rw [List.drop_eq_getElem_cons h1, h2, List.drop_eq_getElem_cons h3, h4, saysOk]
mutual
def fitsI (g : List (ByteArray × ClassV)) : ItemV → Int → Int → Option Int
  | .mk cls _ _ says _ _ parts, deep, most =>
    match getL g cls with
    | none => none
    | some c => if 3 < deep ∨ most < 1 ∨ says.length ≠ c.traits.length ∨ c.most < (parts.length : Int) then none else if saysOk c.traits says then fitsL g c.parts parts deep most 1 else none
def fitsL (g : List (ByteArray × ClassV)) (cp : List ByteArray) : List ItemV → Int → Int → Int → Option Int
  | [], _, _, many => some many
  | p :: l, deep, most, many => if hasW cp p.cls then (match fitsI g p (deep + 1) (most - many) with | none => none | some n => fitsL g cp l deep most (many + n)) else none
end
mutual
theorem fitsI_bd (g : List (ByteArray × ClassV)) : ∀ (x : ItemV) (deep most n : Int), fitsI g x deep most = some n → 1 ≤ n ∧ n ≤ most
  | .mk cls As cs says Ap cp parts, deep, most, n, h => by
    unfold fitsI at h
    split at h
    · cases h
    · split at h
      · cases h
      · split at h
        · exact fitsL_bd g _ parts deep most 1 n (by omega) (by omega) h
        · cases h
theorem fitsL_bd (g : List (ByteArray × ClassV)) (cp : List ByteArray) : ∀ (l : List ItemV) (deep most many n : Int), 1 ≤ many → many ≤ most → fitsL g cp l deep most many = some n → 1 ≤ n ∧ n ≤ most
  | [], deep, most, many, n, h1, h2, h => by
    unfold fitsL at h
    injection h with h
    omega
  | p :: l, deep, most, many, n, h1, h2, h => by
    unfold fitsL at h
    split at h
    · split at h
      · cases h
      · rename_i m hm
        have := fitsI_bd g p _ _ m hm
        exact fitsL_bd g cp l deep most (many + m) n (by omega) (by omega) h
    · cases h
end
def fitsT (o : Option ClassV) (ns np : Nat) (deep most : Int) : Bool := ((((!(o.isSome) || decide (3 < deep)) || decide (most < 1)) || ((ns : Int) != ((o.getD zC).traits.length : Int))) || decide ((o.getD zC).most < (np : Int)))
theorem fitsT_none {o : Option ClassV} {ns np : Nat} {deep most : Int} (h : fitsT o ns np deep most = true) : o = none ∨ ∃ c, o = some c ∧ (3 < deep ∨ most < 1 ∨ ns ≠ c.traits.length ∨ c.most < (np : Int)) := by
  cases o with
  | none => exact .inl rfl
  | some c =>
    refine .inr ⟨c, rfl, ?_⟩
    simp only [fitsT, Option.isSome_some, Option.getD_some, Bool.not_true, Bool.false_or, Bool.or_eq_true, decide_eq_true_eq, bne_iff_ne, ne_eq] at h
    omega
theorem fitsT_some {o : Option ClassV} {ns np : Nat} {deep most : Int} (h : fitsT o ns np deep most = false) : ∃ c, o = some c ∧ ¬ (3 < deep ∨ most < 1 ∨ ns ≠ c.traits.length ∨ c.most < (np : Int)) := by
  cases o with
  | none => simp [fitsT] at h
  | some c =>
    refine ⟨c, rfl, ?_⟩
    simp only [fitsT, Option.isSome_some, Option.getD_some, Bool.not_true, Bool.false_or, Bool.or_eq_false_iff, decide_eq_false_iff_not, bne_eq_false_iff_eq] at h
    omega
theorem fitsI_none {g : List (ByteArray × ClassV)} {x : ItemV} {deep most : Int} (h : fitsT (getL g x.cls) x.says.length x.parts.length deep most = true) : fitsI g x deep most = none := by
  have h1 := fitsT_none h
  obtain ⟨cls, As, cs, says, Ap, cp, parts⟩ := x
  unfold fitsI
  simp only [ItemV.cls, ItemV.says, ItemV.parts] at h1
  rcases h1 with h1 | ⟨c, h1, h2⟩
  · rw [h1]
  · rw [h1]; simp only; rw [if_pos h2]
theorem fitsI_some {g : List (ByteArray × ClassV)} {x : ItemV} {deep most : Int} (h : fitsT (getL g x.cls) x.says.length x.parts.length deep most = false) :
    ∃ c, getL g x.cls = some c ∧ deep ≤ 3 ∧ 1 ≤ most ∧ x.says.length = c.traits.length ∧ fitsI g x deep most = if saysOk c.traits x.says then fitsL g c.parts x.parts deep most 1 else none := by
  obtain ⟨c, h1, h2⟩ := fitsT_some h
  obtain ⟨cls, As, cs, says, Ap, cp, parts⟩ := x
  simp only [ItemV.cls, ItemV.says, ItemV.parts] at h1 h2 ⊢
  refine ⟨c, h1, by omega, by omega, by omega, ?_⟩
  unfold fitsI
  rw [h1]
  simp only
  rw [if_neg h2]
  rfl
theorem fitsL_drop (g : List (ByteArray × ClassV)) (cp : List ByteArray) (l : List ItemV) (k : Nat) (p : ItemV) (deep most many : Int) (h : l[k]? = some p) :
    fitsL g cp (l.drop k) deep most many = if hasW cp p.cls then (match fitsI g p (deep + 1) (most - many) with | none => none | some n => fitsL g cp (l.drop (k + 1)) deep most (many + n)) else none := by
  obtain ⟨h1, h2⟩ := List.getElem?_eq_some_iff.1 h
  rw [List.drop_eq_getElem_cons h1, h2, fitsL]
theorem getL_mem {g : List (ByteArray × ClassV)} {s : ByteArray} {c : ClassV} (h : getL g s = some c) : ∃ p ∈ g, p.2 = c := by
  induction g with
  | nil => cases h
  | cons p g ih =>
    rw [getL] at h
    split at h
    · injection h with h; exact ⟨p, by simp, h⟩
    · obtain ⟨q, hq, he⟩ := ih h; exact ⟨q, by simp [hq], he⟩
theorem putL_mem {m : List (ByteArray × ClassV)} {k : ByteArray} {c : ClassV} {p : ByteArray × ClassV} (h : p ∈ putL m k c) : p ∈ m ∨ p.2 = c := by
  induction m with
  | nil => simp only [putL, List.mem_singleton] at h; exact .inr (by rw [h])
  | cons q m ih =>
    rw [putL] at h
    split at h
    · rcases List.mem_cons.1 h with h | h
      · exact .inr (by rw [h])
      · exact .inl (List.mem_cons_of_mem _ h)
    · rcases List.mem_cons.1 h with h | h
      · exact .inl (by rw [h]; exact List.mem_cons_self ..)
      · rcases ih h with h | h
        · exact .inl (List.mem_cons_of_mem _ h)
        · exact .inr h
theorem putAll_mem (l : List ClassV) : ∀ (m : List (ByteArray × ClassV)) (p : ByteArray × ClassV), p ∈ putAll m l → p ∈ m ∨ p.2 ∈ l := by
  induction l with
  | nil => intro m p h; exact .inl h
  | cons c l ih =>
    intro m p h
    rcases ih _ p h with h | h
    · rcases putL_mem h with h | h
      · exact .inl h
      · exact .inr (by rw [h]; exact List.mem_cons_self ..)
    · exact .inr (List.mem_cons_of_mem _ h)
theorem gramM_mem {l : List ClassV} {p : ByteArray × ClassV} (h : p ∈ gramM l) : p.2 ∈ l := by
  rcases putAll_mem l [] p h with h | h
  · cases h
  · exact h
def itemOk (l : List ClassV) (x : ItemV) : Bool := (fitsI (gramM l) x 1 24).isSome
def askIOk (l : List ClassV) (xs : List ItemV) : Bool := gramOk l && xs.all (itemOk l)
def askIE (l : List ClassV) (xs : List ItemV) : Int := if gramOk l then (if xs.all (itemOk l) then 0 else 11) else 10
end Go.Proofs.YtppfniekcgnmjaaGreatDoor.Pl
namespace Go.Proofs.YtppfniekcgnmjaaGreatDoor.Pl
open Go.Sx Go.RowKit
set_option maxRecDepth 20000

end Go.Proofs.YtppfniekcgnmjaaGreatDoor.Pl
namespace Go.Proofs.YtppfniekcgnmjaaGreatDoor.Pl
open Go.Sx Go.RowKit
set_option maxRecDepth 20000
theorem k_within1 (n lo hi : Int) (w : World)  : Calls Tryz.prog 121 #[.int .i64 n, .int .i64 lo, .int .i64 hi] w (fun e w' => e = .returned (.bool (decide (lo ≤ n) && decide (n ≤ hi))) ∧ Grow w w') := by
  refine enter_pure (args := [.int .i64 n, .int .i64 lo, .int .i64 hi]) [] Tryz.func121 rfl (by rw [Tryz.ntmps121]; simp) (by simp) ?_
  refine cj_seq ?_
  refine cj_regionG (gj_step (y_assign rfl) rfl rfl rfl (gj_nil ?_))
  refine ej_th (cj_seq ?_)
  refine cj_regionG (gj_step (y_move rfl) rfl rfl rfl (gj_step (y_move rfl) rfl rfl rfl (gj_step (y_geq rfl rfl) rfl rfl rfl (gj_step (y_move rfl) rfl rfl rfl (gj_g 3 10 13 rfl rfl rfl rfl (fun hg10 => gj_yes rfl rfl rfl (y_move rfl) rfl rfl (gj_yes rfl rfl rfl (y_move rfl) rfl rfl (gj_yes rfl rfl rfl (y_leq rfl rfl) rfl rfl (gj_nil rfl)))) (gj_step (y_and rfl rfl rfl) rfl rfl rfl (gj_step (y_assign rfl) rfl rfl rfl (gj_nil ?_))))))))
  refine ej_th (cj_ret ?_)
  exact ej_ret1 rfl Tryz.results121 rfl (fun w' hp => ⟨rfl, hp.below⟩)

theorem k_IndexS (l : List ByteArray) (A : Option Addr) (c : Nat) (s : ByteArray) (w : World) (hl : Rd w 1 enStr A l) : Calls Tryz.prog 175 #[.slice A l.length c, .string s] w (fun e w' => e = .returned (.int .i64 (firstS s l 0)) ∧ Grow w w') := by
  have hlen := hl.len
  refine enter_pure (args := [.slice A l.length c, .string s]) [sl (fun b => b < w.heap.size) 1 enStr A l] Tryz.func175 rfl (by rw [Tryz.ntmps175]; simp) (fun g hg => by simp at hg; subst hg; exact ⟨hl, fun _ h => h⟩) ?_
  refine cj_seq ?_
  refine cj_regionG (gj_step (y_assign rfl) rfl rfl rfl (gj_nil ?_))
  refine ej_th (cj_seq (cj_seq ?_))
  refine cj_regionG (gj_step (y_move rfl) rfl rfl rfl (gj_step (y_lenA Tryz.underlying142 rfl) rfl rfl rfl (gj_step (y_move rfl) rfl rfl rfl (gj_nil ?_))))
  refine ej_th (cj_block ?_)
  refine cj_lpic (X := Nat) [(0, _), (1, _), (7, _)] (fun k => k ≤ l.length ∧ firstS s (l.drop k) k = firstS s l 0) (fun k => [(8, .int .i64 k)]) (fun k => l.length - k) 0 (⟨Nat.zero_le _, rfl⟩) ⟨rfl, rfl, rfl, rfl, trivial⟩ ?_
  rintro k ⟨hk, hs⟩
  dsimp only [List.cons_append, List.nil_append]
  refine cj_seq ?_
  refine cj_regionG (gj_step (y_lss rfl rfl) rfl rfl rfl (gj_nil ?_))
  refine ej_th (cj_seq ?_)
  refine cj_cond rfl (fun h9 => ?_) (fun h9 => ?_)
  · have h9b := h9
    try simp only [sxb] at h9
    obtain ⟨x, hx⟩ : ∃ x, l[k]? = some x := ⟨_, List.getElem?_eq_getElem (by omega)⟩
    rw [firstS_drop s l k x hx] at hs
    refine cj_skip (ej_th (cj_seq (cj_block (cj_seq ?_))))
    refine cj_regionG (gj_step (y_move rfl) rfl rfl rfl (gj_step (y_assign rfl) rfl rfl rfl (gj_nil ?_)))
    refine ej_th (cj_seq ?_)
    refine cj_regionG (gj_step (y_move rfl) rfl rfl rfl (gj_step (y_move rfl) rfl rfl rfl (gj_step (y_move rfl) rfl rfl rfl (gj_step (y_ixR (reads_sl) Tryz.underlying142 Tryz.sizeOf9 rfl rfl (⟨by omega, by omega⟩)) rfl rfl rfl (gj_step (y_ld0 (reads_sl) Tryz.isAgg9 rfl (hx) rfl) rfl rfl rfl (gj_step (y_eqlS rfl rfl) rfl rfl rfl (gj_nil ?_)))))))
    refine ej_th ?_
    refine cj_cond rfl (fun h16 => ?_) (fun h16 => ?_)
    · have h16b := h16
      try simp only [sxb] at h16
      refine cj_seq ?_
      refine cj_regionG (gj_step (y_move rfl) rfl rfl rfl (gj_step (y_assign rfl) rfl rfl rfl (gj_nil ?_)))
      refine ej_th (cj_ret (ej_blk_ret (ej_then_ret (ej_then_ret (ej_blk_ret (ej_then_ret ?_))))))
      refine ej_ret1 rfl Tryz.results175 rfl (fun w' hp => ⟨?_, hp.below⟩)
      rw [← hs, if_pos (bytes_eq h16).symm]
    · have h16b := h16
      try simp only [sxb] at h16
      refine cj_skip (ej_blk (ej_th ?_))
      refine cj_regionG (gj_step (y_add rfl rfl (by omega)) rfl rfl rfl (gj_step (y_move rfl) rfl rfl rfl (gj_nil ?_)))
      exact ej_nx (k + 1) (by omega) ⟨by omega, by rw [← hs, if_neg (fun e => bytes_ne h16 e.symm)]⟩ ⟨rfl, rfl, rfl, rfl, trivial⟩
  · have h9b := h9
    try simp only [sxb] at h9
    refine cj_exit (ej_then_exit (ej_then_exit (ej_blk_hit (ej_th (cj_seq ?_)))))
    refine cj_regionG (gj_step (y_assign rfl) rfl rfl rfl (gj_nil ?_))
    refine ej_th (cj_ret ?_)
    refine ej_ret1 rfl Tryz.results175 rfl (fun w' hp => ⟨?_, hp.below⟩)
    rw [← hs, List.drop_of_length_le (by omega)]; rfl

theorem k_ContainsS (l : List ByteArray) (A : Option Addr) (c : Nat) (s : ByteArray) (w : World) (hl : Rd w 1 enStr A l) : Calls Tryz.prog 156 #[.slice A l.length c, .string s] w (fun e w' => e = .returned (.bool (hasW l s)) ∧ Grow w w') := by
  refine enter_pure (args := [.slice A l.length c, .string s]) [sl (fun b => b < w.heap.size) 1 enStr A l] Tryz.func156 rfl (by rw [Tryz.ntmps156]; simp) (fun g hg => by simp at hg; subst hg; exact ⟨hl, fun _ h => h⟩) ?_
  refine cj_seq ?_
  refine cj_regionG (gj_step (y_assign rfl) rfl rfl rfl (gj_nil ?_))
  refine ej_th (cj_seq ?_)
  refine cj_regionG ?_
  refine gj_step (y_move rfl) rfl rfl rfl (gj_step (y_move rfl) rfl rfl rfl (?_))
  refine gj_step (y_call Tryz.call175 rfl (fun w hp => k_IndexS _ _ _ _ w hp.rd)) rfl rfl rfl ?_
  refine gj_step (y_geq rfl rfl) rfl rfl rfl (gj_step (y_assign rfl) rfl rfl rfl (?_))
  refine gj_nil ?_
  refine ej_th (cj_ret ?_)
  refine ej_ret1 rfl Tryz.results156 rfl (fun w' hp => ⟨?_, hp.below⟩)
  rw [firstS_has]

theorem k_words (l : List ByteArray) (A : Option Addr) (c : Nat) (w : World) (hl : Rd w 1 enStr A l) (hsm : smS l) : Calls Tryz.prog 153 #[.slice A l.length c] w (fun e w' => e = .returned (.bool (wordsB l)) ∧ Grow w w') := by
  have hlen := hl.len
  refine enter_pure (args := [.slice A l.length c]) [sl (fun b => b < w.heap.size) 1 enStr A l] Tryz.func153 rfl (by rw [Tryz.ntmps153]; simp) (fun g hg => by simp at hg; subst hg; exact ⟨hl, fun _ h => h⟩) ?_
  refine cj_seq ?_
  refine cj_regionG (gj_step (y_assign rfl) rfl rfl rfl (gj_nil ?_))
  refine ej_th (cj_seq (cj_region ?_))
  refine oj_makeMap ekS evB rfl (fun b6 => ?_)
  refine oj_step (y_assign rfl) rfl rfl rfl ?_
  refine oj_nil ?_
  refine ej_th (cj_seq (cj_seq ?_))
  refine cj_regionG (gj_step (y_move rfl) rfl rfl rfl (gj_step (y_lenA Tryz.underlying142 rfl) rfl rfl rfl (gj_step (y_move rfl) rfl rfl rfl (gj_nil ?_))))
  refine ej_th (cj_block ?_)
  refine cj_eqO [mp ekS evB b6 (mapW (l.take 0))] rfl ?_
  refine cj_lpi (X := Nat) [(3, _), (7, _), (8, _)] (fun k => k ≤ l.length ∧ wordsG (l.take k) (l.drop k) = wordsB l) (fun k => [(9, .int .i64 k)]) (fun k => [mp ekS evB b6 (mapW (l.take k))]) (fun k => [sl (fun b => b < w.heap.size) 1 enStr A l]) (fun k => l.length - k) 0 (⟨Nat.zero_le _, rfl⟩) ⟨rfl, rfl, rfl, rfl, trivial⟩ ?_
  rintro k ⟨hk, hs⟩
  dsimp only [List.cons_append, List.nil_append]
  refine cj_seq ?_
  refine cj_regionG (gj_step (y_lss rfl rfl) rfl rfl rfl (gj_nil ?_))
  refine ej_th (cj_seq ?_)
  refine cj_cond rfl (fun h10 => ?_) (fun h10 => ?_)
  · have h10b := h10
    try simp only [sxb] at h10
    obtain ⟨x, hx⟩ : ∃ x, l[k]? = some x := ⟨_, List.getElem?_eq_getElem (by omega)⟩
    rw [wordsG_drop l k x hx] at hs
    have hgl := getL_mapW (l.take k) x
    have htk : l.take (k + 1) = l.take k ++ [x] := by rw [List.take_add_one, hx]; rfl
    refine cj_skip (ej_th (cj_seq (cj_block (cj_seq ?_))))
    refine cj_regionG (gj_step (y_ixR (reads_sl) Tryz.underlying142 Tryz.sizeOf9 rfl rfl (⟨by omega, by omega⟩)) rfl rfl rfl (gj_step (y_ld0 (reads_sl) Tryz.isAgg9 rfl (hx) rfl) rfl rfl rfl (gj_step (y_assign rfl) rfl rfl rfl (gj_nil ?_))))
    refine ej_th (cj_seq (cj_seq ?_))
    refine cj_regionG ?_
    refine gj_step (y_move rfl) rfl rfl rfl (?_)
    refine gj_step (y_call Tryz.call36 rfl (fun w hp => k_IsWord _ w (hsm x (List.mem_of_getElem? hx)))) rfl rfl rfl ?_
    refine gj_step (y_not rfl) rfl rfl rfl (gj_step (y_move rfl) rfl rfl rfl (?_))
    refine gj_g 3 16 19 rfl rfl rfl rfl (fun hg16 => gj_yes rfl rfl rfl (y_move rfl) rfl rfl (gj_yes rfl rfl rfl (y_move rfl) rfl rfl (gj_yes rfl rfl rfl (y_lookup1 (ek := ekS) (ev := evB) false Tryz.underlying223 Tryz.underlying9 Tryz.zeroValue4 rfl rfl) rfl rfl (gj_nil rfl)))) ?_
    refine gj_step (y_or rfl rfl rfl) rfl rfl rfl (?_)
    refine gj_nil ?_
    refine ej_th ?_
    refine cj_cond rfl (fun h20 => ?_) (fun h20 => ?_)
    · have h20b := h20
      try simp only [sxb] at h20
      rw [hgl] at h20b
      have hgo := not_t ((words_V (l.take k) x).symm.trans h20b)
      refine cj_seq ?_
      refine cj_regionG (gj_step (y_assign rfl) rfl rfl rfl (gj_nil ?_))
      refine ej_th (cj_ret (ej_then_ret (ej_blk_ret (ej_then_ret (ej_then_ret (ej_blk_ret (ej_then_ret ?_)))))))
      refine ej_ret1 rfl Tryz.results153 rfl (fun w' hp => ⟨?_, hp.below⟩)
      rw [← hs, hgo]; rfl
    · have h20b := h20
      try simp only [sxb] at h20
      rw [hgl] at h20b
      have hgo := not_f ((words_V (l.take k) x).symm.trans h20b)
      have hnh : hasW (l.take k) x = false := by have := hgo; simp only [Bool.and_eq_true] at this; exact not_t this.2
      refine cj_skip (ej_th (cj_region ?_))
      refine oj_step (y_move rfl) rfl rfl rfl ?_
      refine oj_step (y_move rfl) rfl rfl rfl ?_
      refine oj_mapUpdate (ek := ekS) (ev := evB) (v := true) Tryz.underlying223 Tryz.underlying9 rfl rfl rfl ?_
      rw [putL_newW _ _ hnh, ← htk]
      refine oj_nil ?_
      refine ej_blk (ej_th ?_)
      refine cj_regionG (gj_step (y_add rfl rfl (by omega)) rfl rfl rfl (gj_step (y_move rfl) rfl rfl rfl (gj_nil ?_)))
      exact ej_nx (k + 1) (by omega) ⟨by omega, by rw [← hs, hgo, Bool.true_and]⟩ ⟨rfl, rfl, rfl, rfl, trivial⟩
  · have h10b := h10
    try simp only [sxb] at h10
    refine cj_exit (ej_then_exit (ej_then_exit (ej_blk_hit (ej_th (cj_seq ?_)))))
    refine cj_regionG (gj_step (y_assign rfl) rfl rfl rfl (gj_nil ?_))
    refine ej_th (cj_ret ?_)
    refine ej_ret1 rfl Tryz.results153 rfl (fun w' hp => ⟨?_, hp.below⟩)
    rw [← hs, List.drop_of_length_le (by omega)]; rfl

theorem k_gcl (s : ByteArray) (ns : List ByteArray) (B : Option Addr) (d : Nat) (b : Nat) (w : World) (hb : (ownB b (cellsB 142 [.slice B ns.length d])).P w) (hn : Rd w 1 enStr B ns) : Calls Tryz.prog 155 #[.string s, .pointer (some ⟨b, 0, none⟩)] w (fun e w' => e = .returned (.bool (!(hasW ns s))) ∧ Grow w w') := by
  refine enter_pure (args := [.string s, .pointer (some ⟨b, 0, none⟩)]) [sl (fun b => b < w.heap.size) 1 enStr B ns, ownB b (cellsB 142 [.slice B ns.length d])] Tryz.func155 rfl (by rw [Tryz.ntmps155]; simp) (fun g hg => by simp at hg; rcases hg with rfl | rfl; exact ⟨hn, fun _ h => h⟩; exact ⟨hb, fun i hi => by have : i = b := hi; subst this; exact (Array.getElem?_eq_some_iff.1 hb).1⟩) ?_
  refine cj_seq ?_
  refine cj_regionG (gj_step (y_assign rfl) rfl rfl rfl (gj_nil ?_))
  refine ej_th (cj_seq ?_)
  refine cj_regionG ?_
  refine gj_step (y_loadS1 Tryz.isAgg142 rfl rfl) rfl rfl rfl (gj_step (y_move rfl) rfl rfl rfl (?_))
  refine gj_step (y_call Tryz.call156 rfl (fun w hp => k_ContainsS _ _ _ _ w hp.rd)) rfl rfl rfl ?_
  refine gj_step (y_not rfl) rfl rfl rfl (gj_step (y_assign rfl) rfl rfl rfl (?_))
  refine gj_nil ?_
  refine ej_th (cj_ret ?_)
  exact ej_ret1 rfl Tryz.results155 rfl (fun w' hp => ⟨rfl, hp.below⟩)

theorem k_IndexFS (l : List ByteArray) (A : Option Addr) (c : Nat) (ns : List ByteArray) (B : Option Addr) (d : Nat) (b : Nat) (w : World) (hl : Rd w 1 enStr A l) (hb : (ownB b (cellsB 142 [.slice B ns.length d])).P w) (hn : Rd w 1 enStr B ns) : Calls Tryz.prog 174 #[.slice A l.length c, .func (.func 155) #[] #[.pointer (some ⟨b, 0, none⟩)]] w (fun e w' => e = .returned (.int .i64 (firstN ns l 0)) ∧ Grow w w') := by
  have hlen := hl.len
  refine enter_pure (args := [.slice A l.length c, .func (.func 155) #[] #[.pointer (some ⟨b, 0, none⟩)]]) [sl (fun b => b < w.heap.size) 1 enStr A l, sl (fun b => b < w.heap.size) 1 enStr B ns, ownB b (cellsB 142 [.slice B ns.length d])] Tryz.func174 rfl (by rw [Tryz.ntmps174]; simp) (fun g hg => by simp at hg; rcases hg with rfl | rfl | rfl; exact ⟨hl, fun _ h => h⟩; exact ⟨hn, fun _ h => h⟩; exact ⟨hb, fun i hi => by have : i = b := hi; subst this; exact (Array.getElem?_eq_some_iff.1 hb).1⟩) ?_
  refine cj_seq ?_
  refine cj_regionG (gj_step (y_assign rfl) rfl rfl rfl (gj_nil ?_))
  refine ej_th (cj_seq (cj_seq ?_))
  refine cj_regionG (gj_step (y_move rfl) rfl rfl rfl (gj_step (y_lenA Tryz.underlying142 rfl) rfl rfl rfl (gj_step (y_move rfl) rfl rfl rfl (gj_nil ?_))))
  refine ej_th (cj_block ?_)
  refine cj_lpic (X := Nat) [(0, _), (1, _), (7, _)] (fun k => k ≤ l.length ∧ firstN ns (l.drop k) k = firstN ns l 0) (fun k => [(8, .int .i64 k)]) (fun k => l.length - k) 0 (⟨Nat.zero_le _, rfl⟩) ⟨rfl, rfl, rfl, rfl, trivial⟩ ?_
  rintro k ⟨hk, hs⟩
  dsimp only [List.cons_append, List.nil_append]
  refine cj_seq ?_
  refine cj_regionG (gj_step (y_lss rfl rfl) rfl rfl rfl (gj_nil ?_))
  refine ej_th (cj_seq ?_)
  refine cj_cond rfl (fun h9 => ?_) (fun h9 => ?_)
  · have h9b := h9
    try simp only [sxb] at h9
    obtain ⟨x, hx⟩ : ∃ x, l[k]? = some x := ⟨_, List.getElem?_eq_getElem (by omega)⟩
    rw [firstN_drop ns l k x hx] at hs
    refine cj_skip (ej_th (cj_seq (cj_block (cj_seq ?_))))
    refine cj_regionG (gj_step (y_move rfl) rfl rfl rfl (gj_step (y_assign rfl) rfl rfl rfl (gj_nil ?_)))
    refine ej_th (cj_seq ?_)
    refine cj_regionG ?_
    refine gj_step (y_move rfl) rfl rfl rfl (gj_step (y_move rfl) rfl rfl rfl (gj_step (y_move rfl) rfl rfl rfl (gj_step (y_ixR (reads_sl) Tryz.underlying142 Tryz.sizeOf9 rfl rfl (⟨by omega, by omega⟩)) rfl rfl rfl (gj_step (y_ld0 (reads_sl) Tryz.isAgg9 rfl (hx) rfl) rfl rfl rfl (?_)))))
    refine gj_step (y_callV Tryz.call155 rfl rfl (fun w hp => k_gcl x ns B d b w hp.bs hp.rd)) rfl rfl rfl ?_
    refine gj_nil ?_
    refine ej_th ?_
    refine cj_cond rfl (fun h16 => ?_) (fun h16 => ?_)
    · have h16b := h16
      try simp only [sxb] at h16
      refine cj_seq ?_
      refine cj_regionG (gj_step (y_move rfl) rfl rfl rfl (gj_step (y_assign rfl) rfl rfl rfl (gj_nil ?_)))
      refine ej_th (cj_ret (ej_blk_ret (ej_then_ret (ej_then_ret (ej_blk_ret (ej_then_ret ?_))))))
      refine ej_ret1 rfl Tryz.results174 rfl (fun w' hp => ⟨?_, hp.below⟩)
      rw [← hs, if_pos h16]
    · have h16b := h16
      try simp only [sxb] at h16
      refine cj_skip (ej_blk (ej_th ?_))
      refine cj_regionG (gj_step (y_add rfl rfl (by omega)) rfl rfl rfl (gj_step (y_move rfl) rfl rfl rfl (gj_nil ?_)))
      exact ej_nx (k + 1) (by omega) ⟨by omega, by rw [← hs, if_neg (by simp [h16])]⟩ ⟨rfl, rfl, rfl, rfl, trivial⟩
  · have h9b := h9
    try simp only [sxb] at h9
    refine cj_exit (ej_then_exit (ej_then_exit (ej_blk_hit (ej_th (cj_seq ?_)))))
    refine cj_regionG (gj_step (y_assign rfl) rfl rfl rfl (gj_nil ?_))
    refine ej_th (cj_ret ?_)
    refine ej_ret1 rfl Tryz.results174 rfl (fun w' hp => ⟨?_, hp.below⟩)
    rw [← hs, List.drop_of_length_le (by omega)]; rfl

theorem k_ContainsFS (l : List ByteArray) (A : Option Addr) (c : Nat) (ns : List ByteArray) (B : Option Addr) (d : Nat) (b : Nat) (w : World) (hl : Rd w 1 enStr A l) (hb : (ownB b (cellsB 142 [.slice B ns.length d])).P w) (hn : Rd w 1 enStr B ns) : Calls Tryz.prog 154 #[.slice A l.length c, .func (.func 155) #[] #[.pointer (some ⟨b, 0, none⟩)]] w (fun e w' => e = .returned (.bool (!(l.all (hasW ns)))) ∧ Grow w w') := by
  refine enter_pure (args := [.slice A l.length c, .func (.func 155) #[] #[.pointer (some ⟨b, 0, none⟩)]]) [sl (fun b => b < w.heap.size) 1 enStr A l, sl (fun b => b < w.heap.size) 1 enStr B ns, ownB b (cellsB 142 [.slice B ns.length d])] Tryz.func154 rfl (by rw [Tryz.ntmps154]; simp) (fun g hg => by simp at hg; rcases hg with rfl | rfl | rfl; exact ⟨hl, fun _ h => h⟩; exact ⟨hn, fun _ h => h⟩; exact ⟨hb, fun i hi => by have : i = b := hi; subst this; exact (Array.getElem?_eq_some_iff.1 hb).1⟩) ?_
  refine cj_seq ?_
  refine cj_regionG (gj_step (y_assign rfl) rfl rfl rfl (gj_nil ?_))
  refine ej_th (cj_seq ?_)
  refine cj_regionG ?_
  refine gj_step (y_move rfl) rfl rfl rfl (gj_step (y_move rfl) rfl rfl rfl (?_))
  refine gj_step (y_call Tryz.call174 rfl (fun w hp => k_IndexFS l A c ns B d b w hp.rd hp.bs hp.rd)) rfl rfl rfl ?_
  refine gj_step (y_geq rfl rfl) rfl rfl rfl (gj_step (y_assign rfl) rfl rfl rfl (?_))
  refine gj_nil ?_
  refine ej_th (cj_ret ?_)
  refine ej_ret1 rfl Tryz.results154 rfl (fun w' hp => ⟨?_, hp.below⟩)
  rw [firstN_all]

end Go.Proofs.YtppfniekcgnmjaaGreatDoor.Pl
namespace Go.Proofs.YtppfniekcgnmjaaGreatDoor.Pl
open Go.Sx Go.RowKit
set_option maxRecDepth 20000
theorem el142 : ElemIs Tryz.prog 142 9 1 16 := ⟨⟨_, (.string ⟨#[]⟩), Tryz.underlying142, Tryz.type9, by kernel_rfl, by kernel_rfl, by kernel_rfl, by kernel_rfl, by decide⟩⟩
theorem fa144_0 : FieldIs Tryz.prog 144 0 0 1 false := ⟨⟨_, _, Tryz.underlying144, rfl, rfl, Tryz.sizeOf9, Tryz.isAgg9, by decide⟩⟩
theorem fa144_1 : FieldIs Tryz.prog 144 1 1 1 false := ⟨⟨_, _, Tryz.underlying144, rfl, rfl, Tryz.sizeOf142, Tryz.isAgg142, by decide⟩⟩
theorem fa147_0 : FieldIs Tryz.prog 147 0 0 1 false := ⟨⟨_, _, Tryz.underlying147, rfl, rfl, Tryz.sizeOf9, Tryz.isAgg9, by decide⟩⟩
theorem fa147_1 : FieldIs Tryz.prog 147 1 1 1 false := ⟨⟨_, _, Tryz.underlying147, rfl, rfl, Tryz.sizeOf145, Tryz.isAgg145, by decide⟩⟩
theorem fa147_2 : FieldIs Tryz.prog 147 2 2 1 false := ⟨⟨_, _, Tryz.underlying147, rfl, rfl, Tryz.sizeOf142, Tryz.isAgg142, by decide⟩⟩
theorem fa147_3 : FieldIs Tryz.prog 147 3 3 1 false := ⟨⟨_, _, Tryz.underlying147, rfl, rfl, Tryz.sizeOf3, Tryz.isAgg3, by decide⟩⟩
end Go.Proofs.YtppfniekcgnmjaaGreatDoor.Pl
namespace Go.Proofs.YtppfniekcgnmjaaGreatDoor.Pl
open Go.Sx Go.RowKit
set_option maxRecDepth 20000
set_option maxHeartbeats 1000000 in
theorem k_grammarOf (l : List ClassV) (A : Option Addr) (c : Nat) (w : World) (hl : Rd w 4 encCl A l) (hgc : ∀ c ∈ l, GoodC w c) : Calls Tryz.prog 124 #[.slice A l.length c] w (fun e w' => ∃ b, e = .returned (.tuple #[.map (bif gramOk l then some b else none), .int .i64 (gramE l)]) ∧ Grow w w' ∧ (gramOk l = true → (mp ekS evC b (gramM l)).P w' ∧ w.heap.size ≤ b ∧ b < w'.heap.size)) := by
  have hlen := hl.len
  refine enter_pure (args := [.slice A l.length c]) [sl (fun b => b < w.heap.size) 4 encCl A l] Tryz.func124 rfl (by rw [Tryz.ntmps124]; simp) (fun g hg => by simp at hg; subst hg; exact ⟨hl, fun _ h => h⟩) ?_
  refine cj_seq ?_
  refine cj_regionG (gj_step (y_assign rfl) rfl rfl rfl (gj_step (y_assign rfl) rfl rfl rfl (gj_nil ?_)))
  refine ej_th (cj_seq (cj_seq ?_))
  refine cj_regionG ?_
  refine gj_step (y_move rfl) rfl rfl rfl (gj_step (y_lenA Tryz.underlying148 rfl) rfl rfl rfl (?_))
  refine gj_step (y_call Tryz.call121 rfl (fun w hp => k_within1 _ _ _ w)) rfl rfl rfl ?_
  refine gj_step (y_not rfl) rfl rfl rfl (?_)
  refine gj_nil ?_
  refine ej_th ?_
  refine cj_cond rfl (fun h16 => ?_) (fun h16 => ?_)
  · have h16b := h16
    try simp only [sxb] at h16
    refine cj_seq ?_
    refine cj_regionG (gj_step (y_assign rfl) rfl rfl rfl (gj_step (y_assign rfl) rfl rfl rfl (gj_nil ?_)))
    refine ej_th (cj_ret (ej_then_ret ?_))
    have hg : gramOk l = false := by rw [gramOk, not_t h16b]; rfl
    exact ej_ret2 rfl Tryz.results124 rfl rfl (fun w' hp => ⟨0, by rw [gramE, hg]; rfl, hp.below, fun h => by rw [hg] at h; cases h⟩)
  · have h16b := h16
    try simp only [sxb] at h16
    have hwi := not_f h16b
    try simp only [Bool.and_eq_true, decide_eq_true_eq] at h16
    refine cj_skip (ej_th (cj_seq (cj_region ?_)))
    refine oj_makeMap ekS evC rfl (fun b17 => ?_)
    refine oj_step (y_assign rfl) rfl rfl rfl ?_
    refine oj_nil ?_
    refine ej_th (cj_seq (cj_region ?_))
    refine oj_alloc Tryz.zeroValue142 rfl rfl (fun b5 => ?_)
    refine oj_nil ?_
    refine ej_th (cj_seq (cj_seq ?_))
    refine cj_regionG (gj_step (y_move rfl) rfl rfl rfl (gj_step (y_lenA Tryz.underlying148 rfl) rfl rfl rfl (gj_step (y_move rfl) rfl rfl rfl (gj_nil ?_))))
    refine ej_th (cj_block ?_)
    refine cj_ownNil 9 1 enStr ?_
    refine cj_eqO [ow 9 1 enStr none 0 [], ownB b5 (cellsB 142 [.slice none ([] : List ByteArray).length 0]), mp ekS evC b17 (putAll [] (l.take 0))] rfl ?_
    refine cj_lpi (X := Nat × Option Addr × Nat × List ByteArray) [(0, _), (2, _), (3, _), (4, _), (5, _), (18, _), (19, _)] (fun ⟨k, A1, c1, xs⟩ => k ≤ l.length ∧ xs = namesC (l.take k)) (fun ⟨k, A1, c1, xs⟩ => [(20, .int .i64 k)]) (fun ⟨k, A1, c1, xs⟩ => [ow 9 1 enStr A1 c1 xs, ownB b5 (cellsB 142 [.slice A1 xs.length c1]), mp ekS evC b17 (putAll [] (l.take k))]) (fun ⟨k, A1, c1, xs⟩ => [sl (fun b => b < w.heap.size) 4 encCl A l]) (fun ⟨k, A1, c1, xs⟩ => l.length - k) (0, none, 0, []) (⟨Nat.zero_le _, rfl⟩) ⟨rfl, rfl, rfl, rfl, rfl, rfl, rfl, rfl, trivial⟩ ?_
    rintro ⟨k, A1, c1, xs⟩ ⟨hk, hxs⟩
    dsimp only [List.cons_append, List.nil_append]
    refine cj_seq ?_
    refine cj_regionG (gj_step (y_lss rfl rfl) rfl rfl rfl (gj_nil ?_))
    refine ej_th (cj_seq ?_)
    refine cj_cond rfl (fun h21 => ?_) (fun h21 => ?_)
    · have h21b := h21
      try simp only [sxb] at h21
      obtain ⟨x, hx⟩ : ∃ x, l[k]? = some x := ⟨_, List.getElem?_eq_getElem (by omega)⟩
      have htk : l.take (k + 1) = l.take k ++ [x] := by rw [List.take_add_one, hx]; rfl
      have hpk : putL (putAll [] (l.take k)) x.name x = putAll [] (l.take (k + 1)) := by rw [htk, putAll_add]
      have hxl : xs.length = k := by rw [hxs]; simp [namesC]; omega
      refine cj_skip (ej_th (cj_seq (cj_block (cj_seq (cj_region ?_)))))
      refine oj_step (y_ixR (reads_sl) Tryz.underlying148 Tryz.sizeOf147 rfl rfl (⟨by omega, by omega⟩)) rfl rfl rfl ?_
      refine oj_step (y_ldW (reads_sl) Tryz.isAgg147 Tryz.sizeOf147 rfl (hx) (fun _ => rfl)) rfl rfl rfl ?_
      refine oj_alloc Tryz.zeroValue147 rfl rfl (fun b7 => ?_)
      refine oj_store rfl rfl rfl rfl Tryz.sizeOf147 rfl ?_
      refine oj_nil ?_
      refine ej_th (cj_seq (cj_region ?_))
      refine oj_step (y_move rfl) rfl rfl rfl ?_
      refine oj_step (y_fa0 fa147_0 rfl) rfl rfl rfl ?_
      refine oj_step (y_load1 Tryz.isAgg9 rfl rfl) rfl rfl rfl ?_
      refine oj_step (y_loadN Tryz.isAgg147 Tryz.sizeOf147 rfl) rfl rfl rfl ?_
      refine oj_mapUpdate (ek := ekS) (ev := evC) (v := x) Tryz.underlying216 Tryz.underlying9 rfl rfl rfl ?_
      rw [hpk]
      refine oj_nil ?_
      refine ej_th (cj_region ?_)
      refine oj_step (y_load1 Tryz.isAgg142 rfl rfl) rfl rfl rfl ?_
      refine oj_step (y_fa0 fa147_0 rfl) rfl rfl rfl ?_
      refine oj_step (y_load1 Tryz.isAgg9 rfl rfl) rfl rfl rfl ?_
      refine oj_buildSlice (cs := [.string x.name]) [.string ⟨#[]⟩] Tryz.underlying142 Tryz.sizeOf9 Tryz.zeroValue9 rfl rfl (by kernel_rfl) (by kernel_rfl) rfl (fun b31 => ?_)
      refine oj_append  el142 (fun _ => rfl) enStr_one rfl rfl rfl (reads_lit [x.name] (fun _ => rfl) rfl) (by simp [maxLen]; omega) (by simp; omega) rfl (fun A32 c32 => ?_)
      refine oj_store rfl rfl rfl rfl Tryz.sizeOf142 rfl ?_
      refine oj_nil ?_
      refine ej_blk (ej_th ?_)
      refine cj_regionG (gj_step (y_add rfl rfl (by omega)) rfl rfl rfl (gj_step (y_move rfl) rfl rfl rfl (gj_nil ?_)))
      exact ej_nx (k + 1, A32, c32, xs ++ [x.name]) (by simp only; omega) ⟨by first | omega | (simp only; omega), by rw [hxs, htk]; simp [namesC]⟩ ⟨rfl, rfl, rfl, rfl, rfl, rfl, rfl, rfl, trivial⟩
    · have h21b := h21
      try simp only [sxb] at h21
      rw [List.take_of_length_le (by omega)] at hxs
      rw [List.take_of_length_le (by omega)]
      subst hxs
      have hnl : (namesC l).length = l.length := by simp [namesC]
      have hns : smS (namesC l) := by
        intro s hs
        obtain ⟨c, hc, rfl⟩ := List.mem_map.1 hs
        exact (hgc c hc).nm
      refine cj_exit (ej_then_exit (ej_then_exit (ej_blk_hit (ej_th (cj_seq (cj_seq ?_))))))
      refine cj_regionG ?_
      refine gj_step (y_load1 Tryz.isAgg142 rfl rfl) rfl rfl rfl (?_)
      refine gj_step (y_call Tryz.call153 rfl (fun w hp => k_words (namesC l) _ _ w (hp.rdO (fun _ => rfl) (by unfold maxLen; rw [hnl]; omega)) hns)) rfl rfl rfl ?_
      refine gj_step (y_not rfl) rfl rfl rfl (?_)
      refine gj_nil ?_
      refine ej_th ?_
      refine cj_cond rfl (fun h36 => ?_) (fun h36 => ?_)
      · have h36b := h36
        try simp only [sxb] at h36
        refine cj_seq ?_
        refine cj_regionG (gj_step (y_assign rfl) rfl rfl rfl (gj_step (y_assign rfl) rfl rfl rfl (gj_nil ?_)))
        refine ej_th (cj_ret (ej_then_ret ?_))
        have hg : gramOk l = false := by rw [gramOk, not_t h36b]; simp
        exact ej_ret2 rfl Tryz.results124 rfl rfl (fun w' hp => ⟨0, by rw [gramE, hg]; rfl, hp.below, fun h => by rw [hg] at h; cases h⟩)
      · have h36b := h36
        try simp only [sxb] at h36
        refine cj_skip (ej_th (cj_seq (cj_seq ?_)))
        refine cj_regionG (gj_step (y_move rfl) rfl rfl rfl (gj_step (y_lenA Tryz.underlying148 rfl) rfl rfl rfl (gj_step (y_move rfl) rfl rfl rfl (gj_nil ?_))))
        refine ej_th (cj_block ?_)
        refine cj_lpic (X := Nat) [(4, _), (5, _), (37, _), (38, _)] (fun k => k ≤ l.length ∧ (l.drop k).all (classOk (namesC l)) = l.all (classOk (namesC l))) (fun k => [(39, .int .i64 k)]) (fun k => l.length - k) 0 (⟨Nat.zero_le _, rfl⟩) ⟨rfl, rfl, rfl, rfl, rfl, trivial⟩ ?_
        rintro k ⟨hk, hal⟩
        dsimp only [List.cons_append, List.nil_append]
        refine cj_seq ?_
        refine cj_regionG (gj_step (y_lss rfl rfl) rfl rfl rfl (gj_nil ?_))
        refine ej_th (cj_seq ?_)
        refine cj_cond rfl (fun h40 => ?_) (fun h40 => ?_)
        · have h40b := h40
          try simp only [sxb] at h40
          obtain ⟨x, hx⟩ : ∃ x, l[k]? = some x := ⟨_, List.getElem?_eq_getElem (by omega)⟩
          rw [all_drop _ l k x hx] at hal
          have hgx := hgc x (List.mem_of_getElem? hx)
          have hl1 := hgx.rt.len
          have hl2 := hgx.rp.len
          refine cj_rd hgx.rp (fun _ h => h) ?_
          refine cj_rd hgx.rt (fun _ h => h) ?_
          refine cj_skip (ej_th (cj_seq (cj_block (cj_seq (cj_region ?_)))))
          refine oj_step (y_ixR (reads_sl) Tryz.underlying148 Tryz.sizeOf147 rfl rfl (⟨by omega, by omega⟩)) rfl rfl rfl ?_
          refine oj_step (y_ldW (reads_sl) Tryz.isAgg147 Tryz.sizeOf147 rfl (hx) (fun _ => rfl)) rfl rfl rfl ?_
          refine oj_alloc Tryz.zeroValue147 rfl rfl (fun b9 => ?_)
          refine oj_store rfl rfl rfl rfl Tryz.sizeOf147 rfl ?_
          refine oj_nil ?_
          refine ej_th (cj_seq (cj_seq ?_))
          refine cj_regionG ?_
          refine gj_step (y_fa fa147_1 rfl) rfl rfl rfl (gj_step (y_load1 Tryz.isAgg145 rfl rfl) rfl rfl rfl (gj_step (y_lenA Tryz.underlying145 rfl) rfl rfl rfl (gj_step (y_gtr rfl rfl) rfl rfl rfl (gj_step (y_move rfl) rfl rfl rfl (?_)))))
          refine gj_g 4 47 51 rfl rfl rfl rfl (fun hg47 => gj_yes rfl rfl rfl (y_fa fa147_3 rfl) rfl rfl (gj_yes rfl rfl rfl (y_load1 Tryz.isAgg3 rfl rfl) rfl rfl (gj_yes rfl rfl rfl (y_call Tryz.call121 rfl (fun w hp => k_within1 _ _ _ w)) rfl rfl (gj_yes rfl rfl rfl (y_not rfl) rfl rfl (gj_nil rfl))))) ?_
          refine gj_step (y_or rfl rfl rfl) rfl rfl rfl (gj_step (y_move rfl) rfl rfl rfl (?_))
          refine gj_g 9 53 62 rfl rfl rfl rfl (fun hg53 => gj_yes rfl rfl rfl (y_fa fa147_2 rfl) rfl rfl (gj_yes rfl rfl rfl (y_load1 Tryz.isAgg142 rfl rfl) rfl rfl (gj_yes rfl rfl rfl (y_lenA Tryz.underlying142 rfl) rfl rfl (gj_yes rfl rfl rfl (y_eql rfl rfl) rfl rfl (gj_yes rfl rfl rfl (y_move rfl) rfl rfl (gj_g 3 58 61 rfl rfl rfl rfl (fun hg58 => gj_yes rfl rfl rfl (y_fa fa147_3 rfl) rfl rfl (gj_yes rfl rfl rfl (y_load1 Tryz.isAgg3 rfl rfl) rfl rfl (gj_yes rfl rfl rfl (y_neq rfl rfl) rfl rfl (gj_nil rfl)))) (gj_yes rfl rfl rfl (y_and rfl rfl rfl) rfl rfl (gj_nil rfl)))))))) ?_
          refine gj_step (y_or rfl rfl rfl) rfl rfl rfl (gj_step (y_move rfl) rfl rfl rfl (?_))
          refine gj_g 4 64 68 rfl rfl rfl rfl (fun hg64 => gj_yes rfl rfl rfl (y_fa fa147_2 rfl) rfl rfl (gj_yes rfl rfl rfl (y_load1 Tryz.isAgg142 rfl rfl) rfl rfl (gj_yes rfl rfl rfl (y_call Tryz.call153 rfl (fun w hp => k_words x.parts _ _ w hp.rd hgx.sm)) rfl rfl (gj_yes rfl rfl rfl (y_not rfl) rfl rfl (gj_nil rfl))))) ?_
          refine gj_step (y_or rfl rfl rfl) rfl rfl rfl (?_)
          refine gj_nil ?_
          refine ej_th ?_
          refine cj_cond rfl (fun h69 => ?_) (fun h69 => ?_)
          · have h69b := h69
            try simp only [sxb] at h69
            have hc1 : class1 x = false := by unfold class1; rw [h69b]; rfl
            refine cj_seq ?_
            refine cj_regionG (gj_step (y_assign rfl) rfl rfl rfl (gj_step (y_assign rfl) rfl rfl rfl (gj_nil ?_)))
            refine ej_th (cj_ret (ej_then_ret (ej_blk_ret (ej_then_ret (ej_then_ret (ej_blk_ret (ej_then_ret ?_)))))))
            have hg : gramOk l = false := by rw [gramOk, ← hal, classOk, hc1]; simp
            exact ej_ret2 rfl Tryz.results124 rfl rfl (fun w' hp => ⟨0, by rw [gramE, hg]; rfl, hp.below, fun h => by rw [hg] at h; cases h⟩)
          · have h69b := h69
            try simp only [sxb] at h69
            have hc1 : class1 x = true := by unfold class1; rw [h69b]; rfl
            have ht8 := class1_tr hc1
            refine cj_skip (ej_th (cj_seq (cj_seq ?_)))
            refine cj_regionG ?_
            refine gj_step (y_fa fa147_2 rfl) rfl rfl rfl (gj_step (y_load1 Tryz.isAgg142 rfl rfl) rfl rfl rfl (gj_step (y_makeFunc rfl rfl) rfl rfl rfl (?_)))
            refine gj_step (y_call Tryz.call154 rfl (fun w hp => k_ContainsFS x.parts _ _ (namesC l) A1 c1 b5 w hp.rd hp.bo (hp.rdO (fun _ => rfl) (by unfold maxLen; rw [hnl]; omega)))) rfl rfl rfl ?_
            refine gj_nil ?_
            refine ej_th ?_
            refine cj_cond rfl (fun h73 => ?_) (fun h73 => ?_)
            · have h73b := h73
              try simp only [sxb] at h73
              have hpa := not_t h73b
              refine cj_seq ?_
              refine cj_regionG (gj_step (y_assign rfl) rfl rfl rfl (gj_step (y_assign rfl) rfl rfl rfl (gj_nil ?_)))
              refine ej_th (cj_ret (ej_then_ret (ej_blk_ret (ej_then_ret (ej_then_ret (ej_blk_ret (ej_then_ret ?_)))))))
              have hg : gramOk l = false := by rw [gramOk, ← hal, classOk, hpa]; simp
              exact ej_ret2 rfl Tryz.results124 rfl rfl (fun w' hp => ⟨0, by rw [gramE, hg]; rfl, hp.below, fun h => by rw [hg] at h; cases h⟩)
            · have h73b := h73
              try simp only [sxb] at h73
              have hpa := not_f h73b
              refine cj_skip (ej_th (cj_seq ?_))
              refine cj_regionG (gj_step (y_assign rfl) rfl rfl rfl (gj_nil ?_))
              refine ej_th (cj_seq (cj_seq ?_))
              refine cj_regionG (gj_step (y_fa fa147_1 rfl) rfl rfl rfl (gj_step (y_load1 Tryz.isAgg145 rfl rfl) rfl rfl rfl (gj_step (y_lenA Tryz.underlying145 rfl) rfl rfl rfl (gj_step (y_move rfl) rfl rfl rfl (gj_nil ?_)))))
              refine ej_th (cj_block ?_)
              refine cj_ownNil 9 1 enStr ?_
              refine cj_lpi (X := Nat × Option Addr × Nat × List ByteArray) [(39, _), (4, _), (5, _), (37, _), (38, _), (75, _), (76, _)] (fun ⟨j, A2, c2, ys⟩ => j ≤ x.traits.length ∧ ys = (x.traits.take j).map (·.name) ∧ (x.traits.drop j).all traitOk = x.traits.all traitOk) (fun ⟨j, A2, c2, ys⟩ => [(10, .slice A2 ys.length c2), (77, .int .i64 j)]) (fun ⟨j, A2, c2, ys⟩ => [ow 9 1 enStr A2 c2 ys, ow 9 1 enStr A1 c1 (namesC l), ownB b5 (cellsB 142 [.slice A1 (namesC l).length c1]), mp ekS evC b17 (putAll [] l)]) (fun ⟨j, A2, c2, ys⟩ => [sl (fun b => b < w.heap.size) 3 encTr x.At x.traits, sl (fun b => b < w.heap.size) 1 enStr x.Ap x.parts, sl (fun b => b < w.heap.size) 4 encCl A l]) (fun ⟨j, A2, c2, ys⟩ => x.traits.length - j) (0, none, 0, []) (⟨Nat.zero_le _, rfl, rfl⟩) ⟨rfl, rfl, rfl, rfl, rfl, rfl, rfl, rfl, rfl, trivial⟩ ?_
              rintro ⟨j, A2, c2, ys⟩ ⟨hj, hys, htl⟩
              dsimp only [List.cons_append, List.nil_append]
              refine cj_seq ?_
              refine cj_regionG (gj_step (y_lss rfl rfl) rfl rfl rfl (gj_nil ?_))
              refine ej_th (cj_seq ?_)
              refine cj_cond rfl (fun h78 => ?_) (fun h78 => ?_)
              · have h78b := h78
                try simp only [sxb] at h78
                obtain ⟨t, hy⟩ : ∃ t, x.traits[j]? = some t := ⟨_, List.getElem?_eq_getElem (by omega)⟩
                rw [all_drop _ x.traits j t hy] at htl
                have htk2 : x.traits.take (j + 1) = x.traits.take j ++ [t] := by rw [List.take_add_one, hy]; rfl
                have hyl : ys.length = j := by rw [hys]; simp; omega
                have hgt := hgx.tr t (List.mem_of_getElem? hy)
                have hl3 := hgt.rd.len
                refine cj_rd hgt.rd (fun _ h => h) ?_
                refine cj_skip (ej_th (cj_seq (cj_block (cj_seq (cj_region ?_)))))
                refine oj_step (y_ixR (reads_sl) Tryz.underlying145 Tryz.sizeOf144 rfl rfl (⟨by omega, by omega⟩)) rfl rfl rfl ?_
                refine oj_step (y_ldW (reads_sl) Tryz.isAgg144 Tryz.sizeOf144 rfl (hy) (fun _ => rfl)) rfl rfl rfl ?_
                refine oj_alloc Tryz.zeroValue144 rfl rfl (fun b12 => ?_)
                refine oj_store rfl rfl rfl rfl Tryz.sizeOf144 rfl ?_
                refine oj_nil ?_
                refine ej_th (cj_seq (cj_region ?_))
                refine oj_step (y_move rfl) rfl rfl rfl ?_
                refine oj_step (y_fa0 fa144_0 rfl) rfl rfl rfl ?_
                refine oj_step (y_load1 Tryz.isAgg9 rfl rfl) rfl rfl rfl ?_
                refine oj_buildSlice (cs := [.string t.name]) [.string ⟨#[]⟩] Tryz.underlying142 Tryz.sizeOf9 Tryz.zeroValue9 rfl rfl (by kernel_rfl) (by kernel_rfl) rfl (fun b84 => ?_)
                refine oj_append  el142 (fun _ => rfl) enStr_one rfl rfl rfl (reads_lit [t.name] (fun _ => rfl) rfl) (by simp [maxLen]; omega) (by simp; omega) rfl (fun A85 c85 => ?_)
                refine oj_step (y_assign rfl) rfl rfl rfl ?_
                refine oj_nil ?_
                refine ej_th (cj_seq ?_)
                refine cj_regionG ?_
                refine gj_step (y_fa fa144_1 rfl) rfl rfl rfl (gj_step (y_load1 Tryz.isAgg142 rfl rfl) rfl rfl rfl (gj_step (y_lenA Tryz.underlying142 rfl) rfl rfl rfl (?_)))
                refine gj_step (y_call Tryz.call121 rfl (fun w hp => k_within1 _ _ _ w)) rfl rfl rfl ?_
                refine gj_step (y_not rfl) rfl rfl rfl (gj_step (y_move rfl) rfl rfl rfl (?_))
                refine gj_g 4 91 95 rfl rfl rfl rfl (fun hg91 => gj_yes rfl rfl rfl (y_fa fa144_1 rfl) rfl rfl (gj_yes rfl rfl rfl (y_load1 Tryz.isAgg142 rfl rfl) rfl rfl (gj_yes rfl rfl rfl (y_call Tryz.call153 rfl (fun w hp => k_words t.vals _ _ w hp.rd (hgx.tr t (List.mem_of_getElem? hy)).sm)) rfl rfl (gj_yes rfl rfl rfl (y_not rfl) rfl rfl (gj_nil rfl))))) ?_
                refine gj_step (y_or rfl rfl rfl) rfl rfl rfl (?_)
                refine gj_nil ?_
                refine ej_th ?_
                refine cj_cond rfl (fun h96 => ?_) (fun h96 => ?_)
                · have h96b := h96
                  try simp only [sxb] at h96
                  have hto : traitOk t = false := by unfold traitOk; rw [h96b]; rfl
                  refine cj_seq ?_
                  refine cj_regionG (gj_step (y_assign rfl) rfl rfl rfl (gj_step (y_assign rfl) rfl rfl rfl (gj_nil ?_)))
                  refine ej_th (cj_ret (ej_blk_ret (ej_then_ret (ej_then_ret (ej_blk_ret (ej_then_ret (ej_blk_ret (ej_then_ret (ej_then_ret (ej_blk_ret (ej_then_ret ?_)))))))))))
                  have hg : gramOk l = false := by rw [gramOk, ← hal, classOk, ← htl, hto]; simp
                  exact ej_ret2 rfl Tryz.results124 rfl rfl (fun w' hp => ⟨0, by rw [gramE, hg]; rfl, hp.below, fun h => by rw [hg] at h; cases h⟩)
                · have h96b := h96
                  try simp only [sxb] at h96
                  have hto : traitOk t = true := by unfold traitOk; rw [h96b]; rfl
                  refine cj_skip (ej_blk (ej_th ?_))
                  refine cj_regionG (gj_step (y_add rfl rfl (by omega)) rfl rfl rfl (gj_step (y_move rfl) rfl rfl rfl (gj_nil ?_)))
                  exact ej_nx (j + 1, A85, c85, ys ++ [t.name]) (by simp only; omega) ⟨by first | omega | (simp only; omega), by rw [hys, htk2]; simp, by rw [← htl, hto, Bool.true_and]⟩ ⟨rfl, rfl, rfl, rfl, rfl, rfl, rfl, rfl, rfl, trivial⟩
              · have h78b := h78
                try simp only [sxb] at h78
                rw [List.take_of_length_le (by omega)] at hys
                rw [List.drop_of_length_le (by omega)] at htl
                have hts : smS ys := by
                  rw [hys]
                  intro s hs
                  obtain ⟨t, ht, rfl⟩ := List.mem_map.1 hs
                  exact (hgx.tr t ht).nm
                have hml : ys.length ≤ maxLen := by rw [hys]; unfold maxLen; simp only [List.length_map]; omega
                refine cj_exit (ej_then_exit (ej_then_exit (ej_blk_hit (ej_th (cj_seq ?_)))))
                refine cj_regionG ?_
                refine gj_step (y_move rfl) rfl rfl rfl (?_)
                refine gj_step (y_call Tryz.call153 rfl (fun w hp => k_words ys A2 c2 w (hp.rdO (A := A2) (fun _ => rfl) hml) hts)) rfl rfl rfl ?_
                refine gj_step (y_not rfl) rfl rfl rfl (?_)
                refine gj_nil ?_
                refine ej_th ?_
                refine cj_cond rfl (fun h100 => ?_) (fun h100 => ?_)
                · have h100b := h100
                  try simp only [sxb] at h100
                  refine cj_seq ?_
                  refine cj_regionG (gj_step (y_assign rfl) rfl rfl rfl (gj_step (y_assign rfl) rfl rfl rfl (gj_nil ?_)))
                  refine ej_th (cj_ret (ej_blk_ret (ej_then_ret (ej_then_ret (ej_blk_ret (ej_then_ret ?_))))))
                  have hg : gramOk l = false := by rw [gramOk, ← hal, classOk, ← hys, not_t h100b]; simp
                  exact ej_ret2 rfl Tryz.results124 rfl rfl (fun w' hp => ⟨0, by rw [gramE, hg]; rfl, hp.below, fun h => by rw [hg] at h; cases h⟩)
                · have h100b := h100
                  try simp only [sxb] at h100
                  have hco : classOk (namesC l) x = true := by rw [classOk, hc1, hpa, ← htl, ← hys, not_f h100b]; rfl
                  refine cj_skip (ej_blk (ej_th ?_))
                  refine cj_regionG (gj_step (y_add rfl rfl (by omega)) rfl rfl rfl (gj_step (y_move rfl) rfl rfl rfl (gj_nil ?_)))
                  exact ej_nx (k + 1) (by omega) ⟨by omega, by rw [← hal, hco, Bool.true_and]⟩ ⟨rfl, rfl, rfl, rfl, rfl, trivial⟩
        · have h40b := h40
          try simp only [sxb] at h40
          refine cj_exit (ej_then_exit (ej_then_exit (ej_blk_hit (ej_th (cj_seq ?_)))))
          refine cj_regionG (gj_step (y_move rfl) rfl rfl rfl (gj_step (y_assign rfl) rfl rfl rfl (gj_step (y_assign rfl) rfl rfl rfl (gj_nil ?_))))
          refine ej_th (cj_ret ?_)
          have hg : gramOk l = true := by rw [gramOk, hwi, not_f h36b, ← hal, List.drop_of_length_le (by omega)]; rfl
          exact ej_ret2 rfl Tryz.results124 rfl rfl (fun w' hp => ⟨b17, by rw [gramE, hg]; rfl, hp.below, fun _ => hp.newM⟩)

end Go.Proofs.YtppfniekcgnmjaaGreatDoor.Pl
namespace Go.Proofs.YtppfniekcgnmjaaGreatDoor.Pl
open Go.Sx Go.RowKit
set_option maxRecDepth 20000
theorem fa144_2 : FieldIs Tryz.prog 144 2 2 1 false := ⟨⟨_, _, Tryz.underlying144, rfl, rfl, Tryz.sizeOf4, Tryz.isAgg4, by decide⟩⟩
theorem fa153_0 : FieldIs Tryz.prog 153 0 0 1 false := ⟨⟨_, _, Tryz.underlying153, rfl, rfl, Tryz.sizeOf9, Tryz.isAgg9, by decide⟩⟩
theorem fa153_1 : FieldIs Tryz.prog 153 1 1 1 false := ⟨⟨_, _, Tryz.underlying153, rfl, rfl, Tryz.sizeOf142, Tryz.isAgg142, by decide⟩⟩
theorem fa153_2 : FieldIs Tryz.prog 153 2 2 1 false := ⟨⟨_, _, Tryz.underlying153, rfl, rfl, Tryz.sizeOf151, Tryz.isAgg151, by decide⟩⟩
end Go.Proofs.YtppfniekcgnmjaaGreatDoor.Pl
