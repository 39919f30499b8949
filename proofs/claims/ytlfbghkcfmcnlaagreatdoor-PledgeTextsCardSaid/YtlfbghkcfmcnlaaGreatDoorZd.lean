/- Texts of ours, joined: 10 of them. Conditions: none. -/
import Derived.Test.YtlfbghkcfmcnlaaGreatDoorZc
import Derived.Recover
import Derived.Laws.Strings2
import Derived.Laws.Slices
import Derived.SizedLaws
namespace Go.Sx
open Go.RowKit

section
variable {C : Cx} {Q : Exit → Act → World → Prop} {L : Regs} {O S : List Fact} {ops : Array Oper} {rest : List Oper} {ty : TypeId} {pos : String} {aft : Array Edge} {dst : Option Tmp} {gu : Option (Nat × Bool)} {t t' : TypeId} {x y : Operand}
/-! ### Bits -/
theorem nat_bv (m : Nat) (hm : m ≤ 9223372036854775807) : (BitVec.ofInt 64 (m : Int)).toNat = m := by rw [BitVec.toNat_ofInt]; omega
theorem or_nat (m n : Nat) (hm : m < 2 ^ 62) (hn : n < 2 ^ 62) : IntKind.i64.wrap ((BitVec.ofInt 64 (m : Int) ||| BitVec.ofInt 64 (n : Int)).toNat : Int) = ((m ||| n : Nat) : Int) := by
  have h : (BitVec.ofInt 64 (m : Int) ||| BitVec.ofInt 64 (n : Int)).toNat = m ||| n := by
    rw [BitVec.toNat_or, nat_bv m (by omega), nat_bv n (by omega)]
  have hlt : m ||| n < 2 ^ 62 := Nat.or_lt_two_pow hm hn
  rw [h]; exact IntWalk.i64_in _ (by omega)
theorem y_orN {m n : Nat} (hx : val L x = some (.int .i64 (m : Nat))) (hy : val L y = some (.int .i64 (n : Nat))) (hm : m < 2 ^ 62) (hn : n < 2 ^ 62) : Yi C ⟨dst, .binOp .or t x y t', ty, pos, aft, gu⟩ L O S (.int .i64 ((m ||| n : Nat) : Int)) :=
  yi_val (by intro c h; cases h) fun a w hr _ => by
    have e : binOp .or t (.int .i64 (m : Int)) (.int .i64 (n : Int)) = pure (.int .i64 ((m ||| n : Nat) : Int)) := by
      unfold binOp
      simp only [ne_eq, not_true_eq_false, if_false]
      exact congrArg (fun z => (pure (Value.int .i64 z) : Sem Value)) (or_nat m n hm hn)
    simp [execOp, hr.val hx, hr.val hy, eqGuard, e]
theorem andNot_nat (m n : Nat) (hm : m ≤ 9223372036854775807) (hn : n ≤ 9223372036854775807) : IntKind.i64.wrap ((BitVec.ofInt 64 (m : Int) &&& ~~~(BitVec.ofInt 64 (n : Int))).toNat : Int) = ((m ^^^ (m &&& n) : Nat) : Int) := by
  have h : (BitVec.ofInt 64 (m : Int) &&& ~~~(BitVec.ofInt 64 (n : Int))).toNat = m ^^^ (m &&& n) := by
    refine Nat.eq_of_testBit_eq fun i => ?_
    rw [Nat.testBit_xor, Nat.testBit_and, BitVec.testBit_toNat, BitVec.getLsbD_and, BitVec.getLsbD_not]
    have h1 : (BitVec.ofInt 64 (m : Int)).getLsbD i = m.testBit i := by rw [← BitVec.testBit_toNat, nat_bv m hm]
    have h2 : (BitVec.ofInt 64 (n : Int)).getLsbD i = n.testBit i := by rw [← BitVec.testBit_toNat, nat_bv n hn]
    rw [h1, h2]
    by_cases hi : i < 64
    · rw [decide_eq_true hi]; cases m.testBit i <;> cases n.testBit i <;> rfl
    · have : m < 2 ^ i := Nat.lt_of_lt_of_le (show m < 2 ^ 64 by omega) (Nat.pow_le_pow_right (by decide) (by omega))
      rw [Nat.testBit_lt_two_pow this]; simp
  have hle : m ^^^ (m &&& n) ≤ m := by
    have hsub : (m ^^^ (m &&& n)) &&& m = m ^^^ (m &&& n) := Nat.eq_of_testBit_eq fun i => by
      rw [Nat.testBit_and, Nat.testBit_xor, Nat.testBit_and]; cases m.testBit i <;> cases n.testBit i <;> rfl
    rw [← hsub]; exact Nat.and_le_right
  rw [h]; exact IntWalk.i64_in _ (by omega)
theorem y_andNotN {m n : Nat} (hx : val L x = some (.int .i64 (m : Nat))) (hy : val L y = some (.int .i64 (n : Nat))) (hm : m ≤ 9223372036854775807) (hn : n ≤ 9223372036854775807) : Yi C ⟨dst, .binOp .andNot t x y t', ty, pos, aft, gu⟩ L O S (.int .i64 ((m ^^^ (m &&& n) : Nat) : Int)) :=
  yi_val (by intro c h; cases h) fun a w hr _ => by
    have e : binOp .andNot t (.int .i64 (m : Int)) (.int .i64 (n : Int)) = pure (.int .i64 ((m ^^^ (m &&& n) : Nat) : Int)) := by
      unfold binOp
      simp only [ne_eq, not_true_eq_false, if_false]
      exact congrArg (fun z => (pure (Value.int .i64 z) : Sem Value)) (andNot_nat m n hm hn)
    simp [execOp, hr.val hx, hr.val hy, eqGuard, e]
theorem y_shl1I {n : Int} (hx : val L x = some (.int .i64 1)) (hy : val L y = some (.int .i64 n)) (h0 : 0 ≤ n) (hn : n ≤ 62) : Yi C ⟨dst, .binOp .shl t x y t', ty, pos, aft, gu⟩ L O S (.int .i64 ((2 ^ n.toNat : Nat) : Int)) := by
  have h : val L y = some (.int .i64 (n.toNat : Nat)) := by rw [hy, Int.toNat_of_nonneg h0]
  exact y_shl1 hx h (by omega)
theorem y_orI {m n : Int} (hx : val L x = some (.int .i64 m)) (hy : val L y = some (.int .i64 n)) (hm : 0 ≤ m ∧ m < 4611686018427387904) (hn : 0 ≤ n ∧ n < 4611686018427387904) : Yi C ⟨dst, .binOp .or t x y t', ty, pos, aft, gu⟩ L O S (.int .i64 ((m.toNat ||| n.toNat : Nat) : Int)) := by
  have h1 : val L x = some (.int .i64 (m.toNat : Nat)) := by rw [hx, Int.toNat_of_nonneg hm.1]
  have h2 : val L y = some (.int .i64 (n.toNat : Nat)) := by rw [hy, Int.toNat_of_nonneg hn.1]
  exact y_orN h1 h2 (by omega) (by omega)
theorem y_shrI {m : Nat} {n : Int} (hx : val L x = some (.int .i64 (m : Nat))) (hy : val L y = some (.int .i64 n)) (h0 : 0 ≤ n) (hn : n ≤ 64) : Yi C ⟨dst, .binOp .shr t x y t', ty, pos, aft, gu⟩ L O S (.int .i64 ((m / 2 ^ n.toNat : Nat) : Int)) := by
  have h : val L y = some (.int .i64 (n.toNat : Nat)) := by rw [hy, Int.toNat_of_nonneg h0]
  exact y_shr hx h (by omega)
/-! ### Panics -/
theorem ej_then_pan {K : Act → World → Prop} {ch : List PanicEntry} (h : EJ C Q (.panic ch) L O S) : EJ C (Exit.then K Q) (.panic ch) L O S := h
theorem ej_blk_pan {id : Nat} {ch : List PanicEntry} (h : EJ C Q (.panic ch) L O S) : EJ C (Exit.inBlock id Q) (.panic ch) L O S := h
theorem ej_noGoto_pan {ch : List PanicEntry} (h : EJ C Q (.panic ch) L O S) : EJ C (Exit.noGoto Q) (.panic ch) L O S := h
/-- Out of a region that draws its order: what the temporaries hold is not known. -/
theorem ej_np_pan {K : Act → World → Prop} {ch : List PanicEntry} (h : EJ C Q (.panic ch) [] O S) : EJ C (NP C Q K) (.panic ch) L O S :=
  fun _ w _ hp a' hd hs => h a' w ⟨hd, hs, fun _ _ h => by cases h⟩ hp
theorem ej_pan {fn : Func} {R : Ending → World → Prop} {ch : List PanicEntry} (hD : C.D = []) (hR : ∀ w, Hp C.F C.w0 O S w → R (.panicked ch) w) : EJ C (bodyPost C.P fn R) (.panic ch) L O S :=
  fun _ w hr hp => ⟨hr.defers.trans hD, hR w hp⟩
theorem oj_panic {v : Value} {tt : TypeId} (hx : val L x = some (.iface tt v)) (k : EJ C Q (.panic [{ v := .iface tt v, recovered := false }]) L O S) : OJ C ops Q (⟨none, .panic x, ty, pos, aft, none⟩ :: rest) L O S := by
  intro a w hr hp
  unfold wpListIn
  rw [if_pos (by simp [Region.wanted])]
  refine ⟨fun _ _ => trivial, ?_⟩
  rw [Oper.semAt_eq _ _ _ (by intro c h; cases h)]
  have h : (execOp a.eval ⟨none, .panic x, ty, pos, aft, none⟩).run C.P w = .halt (.panic (.iface tt v)) w := by
    simp only [execOp, hr.val hx, Instr.panic, goPanic]; rfl
  rw [h]
  exact k a w hr hp
section
variable {xs : List Operand} {vs : List Value} {ats : Array TypeId} {f : FuncId}
/-- What a call that turns nothing comes to: a value, or a panic. -/
def endP (p : Bool) (v : Value) (ch : List PanicEntry) : Ending := bif p then .returned v else .panicked ch
theorem oj_callP {d : Nat} {p : Bool} {v : Value} {ch : List PanicEntry} (hf : ∀ args w, (callFunc f args).run C.P w = .ok (.enter f args) w) (hv : valsO L xs = some vs)
    (hc : ∀ w, Hp C.F C.w0 O S w → Calls C.P f vs.toArray w (fun e w' => e = endP p v ch ∧ Grow w w')) (hdN : Nat.blt d C.N = true)
    (k2 : p = false → EJ C Q (.panic ch) L O S) (k : p = true → OJ C ops Q rest ((d, v) :: L) O S) : OJ C ops Q (⟨some d, .call ⟨.value (.func f), xs.toArray, ats⟩, ty, pos, aft, none⟩ :: rest) L O S := by
  intro a w hr hp
  have hdN' : d < C.N := by simpa [Nat.blt_eq] using hdN
  unfold wpListIn
  rw [if_pos (by simp [Region.wanted])]
  refine ⟨fun _ _ => trivial, ?_⟩
  rw [Oper.semAt_eq _ _ _ (by intro c h; cases h), run_call hr hf hv]
  refine ⟨fun h => (by cases h), callsIn_FR.2 ((hc w hp).mono fun e w' hx => ?_)⟩
  obtain ⟨rfl, hg⟩ := hx
  cases p with
  | true => exact k rfl _ w' (hr.put hdN' _) (hp.grow hg)
  | false => exact k2 rfl _ w' hr (hp.grow hg)
/-- A call (of a function, or a function value) that turns several things, or panics. -/
theorem oj_callLP {X Y : Type} {x : Operand} {d : Nat} {fi ca : Array Value} (enc : X → Value) (pc : Y → List PanicEntry) (p : X → Prop) (q : Y → Prop) (Os : List Fact) (Ps : X → List Fact) (Pp : Y → List Fact) {R : List Fact} [ht : Takes O Os R]
    (hf : ∀ args w, (callFunc f args).run C.P w = .ok (.enter f args) w) (hx : val L x = some (.func (.func f) fi ca)) (hv : valsO L xs = some vs)
    (hc : ∀ w, Hp C.F C.w0 O S w → Calls C.P f (fi ++ vs.toArray ++ ca) w (fun e w' => (∃ z, p z ∧ e = .returned (enc z) ∧ Giv Os w w' (Ps z)) ∨ (∃ y, q y ∧ e = .panicked (pc y) ∧ Giv Os w w' (Pp y)))) (hdN : Nat.blt d C.N = true)
    (k2 : ∀ y, q y → EJ C Q (.panic (pc y)) L (Pp y ++ R) S) (k : ∀ z, p z → OJ C ops Q rest ((d, enc z) :: L) (Ps z ++ R) S) : OJ C ops Q (⟨some d, .call ⟨.value x, xs.toArray, ats⟩, ty, pos, aft, none⟩ :: rest) L O S := by
  intro a w hr hp
  have hdN' : d < C.N := by simpa [Nat.blt_eq] using hdN
  unfold wpListIn
  rw [if_pos (by simp [Region.wanted])]
  refine ⟨fun _ _ => trivial, ?_⟩
  rw [Oper.semAt_eq _ _ _ (by intro c h; cases h), run_callV hr hf hx hv]
  refine ⟨fun h => (by cases h), callsIn_FR.2 ((hc w hp).mono fun e w' hx => ?_)⟩
  rcases hx with ⟨z, hz, rfl, hg⟩ | ⟨y, hy, rfl, hg⟩
  · exact k z hz _ w' (hr.put hdN' _) (hp.takeGiv ht.perm hg)
  · exact k2 y hy _ w' hr (hp.takeGiv ht.perm hg)
end
theorem y_typeAssertT {tx ta : TypeId} {v : Value} {d : TypeDesc} (ht : C.P.underlying ta = some d) (hd : ∀ m, d ≠ .interface m) (hx : val L x = some (.iface ta v)) : Yi C ⟨dst, .typeAssert x tx ta true, ty, pos, aft, gu⟩ L O S (.tuple #[v, .bool true]) :=
  yi_val (by intro c h; cases h) fun a w hr _ => by
    simp only [execOp, hr.val hx, Instr.typeAssert, Sem.run_bind, run_underlying ht, Result.andThen_ok]
    cases d <;> first | exact absurd rfl (hd _) | simp
/-! ### Deferred calls that recover -/
theorem oj_defer {f : FuncId} {ca : Array Value} (hD : C.D = []) (hro : C.ro = none) (hx : val L x = some (.func (.func f) #[] ca)) (k : OJ { C with D := [⟨.fn (.func f) ca, #[]⟩] } ops Q rest L O S) :
    OJ C ops Q (⟨none, .defer ⟨.value x, #[], #[]⟩, ty, pos, aft, none⟩ :: rest) L O S := by
  intro a w hr hp
  unfold wpListIn
  rw [if_pos (by simp [Region.wanted])]
  refine ⟨fun _ _ => trivial, ?_⟩
  have h : (Oper.semAt (FR C.ro).round a.eval ⟨none, .defer ⟨.value x, #[], #[]⟩, ty, pos, aft, none⟩).run C.P w = .ok (.defer ⟨.fn (.func f) ca, #[]⟩) w := by
    rw [show (FR C.ro).round = none from hro, Oper.semAt_none]
    simp [execOp, resolve, hr.val hx, Deferred.ofValue]
  rw [h]
  refine k { a with defers := ⟨.fn (.func f) ca, #[]⟩ :: a.defers } w ⟨?_, hr.size, hr.look⟩ hp
  show _ :: a.defers = _
  rw [hr.defers, hD]
theorem enterD {P : Program} {f : FuncId} {fn : Func} {c : Code} {args : List Value} {w : World} {R : Ending → World → Prop} (F : Nat → Prop) (O S : List Fact)
    (hf : P.funcs[f]? = some fn) (hb : fn.body = some c) (hn : args.length ≤ fn.ntmps) (hp : Hp F w O S w)
    (h : CJ ⟨P, none, F, w, fn.ntmps, []⟩ c (bodyPostD P fn R) (regsOf 0 args) O S) : Calls P f args.toArray w R := by
  refine calls_of_wp_defers hf hb (wpIn_FR_none.1 (h _ w ⟨rfl, ?_, fun k v hk => ?_⟩ hp))
  · simp; omega
  · obtain ⟨_, h2⟩ := look_regsOf args 0 k v hk
    simp only [Nat.sub_zero] at h2
    have hk' : k < args.length := (List.getElem?_eq_some_iff.1 h2).1
    rw [Array.getElem?_append_left (by simpa using hk')]
    simpa using h2
theorem enterDO {P : Program} {f : FuncId} {fn : Func} {c : Code} {args : List Value} {w : World} {R : Ending → World → Prop} (Os S : List Fact)
    (hf : P.funcs[f]? = some fn) (hb : fn.body = some c) (hn : args.length ≤ fn.ntmps) (hO : ∀ f ∈ Os, f.P w ∧ ∀ b, f.fp b → b < w.heap.size) (hap : Os.Pairwise (fun f g => ∀ b, f.fp b → ¬ g.fp b))
    (hS : ∀ g ∈ S, g.P w ∧ ∀ i, g.fp i → i < w.heap.size ∧ ∀ f ∈ Os, ¬ f.fp i)
    (h : CJ ⟨P, none, FrO w Os, w, fn.ntmps, []⟩ c (bodyPostD P fn R) (regsOf 0 args) Os S) : Calls P f args.toArray w R :=
  enterD (FrO w Os) Os S hf hb hn ⟨rfl, rfl, rfl, Nat.le_refl _, fun _ hi => ⟨hi.1, rfl⟩, fun g hg => ⟨(hO g hg).1, fun b hb => ⟨(hO g hg).2 b hb, fun h => h.2 g hg hb⟩⟩, hap, fun g hg => ⟨(hS g hg).1, fun i hi => ((hS g hg).2 i hi).1, fun o ho i hi hio => ((hS g hg).2 i hi).2 o ho hio⟩⟩ h
/-- The function returns: the deferred call finds nothing to recover. -/
theorem ej_retD {fn : Func} {R : Ending → World → Prop} {g : FuncId} {ca : Array Value} (hD : C.D = [⟨.fn (.func g) ca, #[]⟩]) (hf : ∀ args w, (callFunc g args).run C.P w = .ok (.enter g args) w)
    (hc : ∀ w, Hp C.F C.w0 O S w → CallsD C.P g ca .returning w (fun e u' w' => (∃ v, e = .returned v) ∧ u' = .returning ∧ Grow w w'))
    (hres : ∀ a w, RegsOk C.N C.D L a → Hp C.F C.w0 O S w → ∃ v, (results fn a.tmps).run C.P w = .ok v w ∧ R (.returned v) w) : EJ C (bodyPostD C.P fn R) .ret L O S := fun a w hr hp => by
  show Leaves C.P fn a.tmps R a.defers .returning w
  rw [hr.defers, hD]
  refine ⟨by simp, _, _, g, ca, rfl, by simp [invoke, hf], ?_⟩
  intro c₀ cs hu
  obtain ⟨e, u', w', fr, ⟨⟨v, rfl⟩, rfl, hg⟩, h1, h2, h3⟩ := hc w hp c₀ cs hu
  exact ⟨_, _, w', fr, hres a w' hr (hp.grow hg), h1, h2, h3⟩
/-- It panics: the deferred call recovers, and turns what one block holds. -/
theorem ej_panD {fn : Func} {R : Ending → World → Prop} {g : FuncId} {ca : Array Value} {ch ch' : List PanicEntry} {b : Nat} {ob ob' : Obj} {O' : List Fact} (hD : C.D = [⟨.fn (.func g) ca, #[]⟩]) (hf : ∀ args w, (callFunc g args).run C.P w = .ok (.enter g args) w) (hs : settle (.panicking ch') = .returning)
    [hb : HasB O b ob] [hu : UpdB O b ob ob' O'] (hc : ∀ w, Hp C.F C.w0 O S w → CallsD C.P g ca (.panicking ch) w (fun e u' w' => (∃ v, e = .returned v) ∧ u' = .panicking ch' ∧ Mut (ownB b ob) w w' ∧ w'.heap[b]? = some ob'))
    (hres : ∀ a w, RegsOk C.N C.D L a → Hp C.F C.w0 O' S w → ∃ v, (results fn a.tmps).run C.P w = .ok v w ∧ R (.returned v) w) : EJ C (bodyPostD C.P fn R) (.panic ch) L O S := fun a w hr hp => by
  show Leaves C.P fn a.tmps R a.defers (.panicking ch) w
  rw [hr.defers, hD]
  refine ⟨by simp, _, _, g, ca, rfl, by simp [invoke, hf], ?_⟩
  intro c₀ cs hu0
  obtain ⟨e, u', w', fr, ⟨⟨v, rfl⟩, rfl, hm, hP⟩, h1, h2, h3⟩ := hc w hp c₀ cs hu0
  refine ⟨_, _, w', fr, ?_, h1, h2, h3⟩
  show Leaves C.P fn a.tmps R [] (settle (.panicking ch')) w'
  rw [hs]
  refine hres a w' hr (hp.write hu.rep hm.os hm.tape hm.output hm.size hm.same hP (fun c hc => ⟨?_, .inl hc⟩))
  have hc' : c = b := hc
  subst hc'
  exact Nat.lt_of_lt_of_le ((hp.own _ hb.mem).2 c rfl).1 hm.size
/-- Results in a temporary and a cell, or in two cells. -/
theorem res_TC {fn : Func} {p u : Tmp} {t : TypeId} {ad : Addr} {v z : Value} (h : fn.results = #[.tmp u, .cell p t]) (hx : val L (.tmp p) = some (.pointer (some ad))) (hy : Yi C ⟨none, .load t (.tmp p), 0, "", #[], none⟩ L O S v) (hu : look L u = some z) {a : Act} {w : World} (hr : RegsOk C.N C.D L a) (hp : Hp C.F C.w0 O S w) :
    (results fn a.tmps).run C.P w = .ok (.tuple #[z, v]) w := by
  have h1 := getQ_of_look hr hx
  have h2 := getQ_of_look hr hu
  simp [results, h, h1, h2, asAddr, yi_loadVar hx hy hr hp]
theorem res_CC {fn : Func} {p q : Tmp} {t u : TypeId} {ad bd : Addr} {v z : Value} (h : fn.results = #[.cell p t, .cell q u]) (hx : val L (.tmp p) = some (.pointer (some ad))) (hy : Yi C ⟨none, .load t (.tmp p), 0, "", #[], none⟩ L O S v)
    (hx2 : val L (.tmp q) = some (.pointer (some bd))) (hy2 : Yi C ⟨none, .load u (.tmp q), 0, "", #[], none⟩ L O S z) {a : Act} {w : World} (hr : RegsOk C.N C.D L a) (hp : Hp C.F C.w0 O S w) :
    (results fn a.tmps).run C.P w = .ok (.tuple #[v, z]) w := by
  have h1 := getQ_of_look hr hx
  have h2 := getQ_of_look hr hx2
  simp [results, h, h1, h2, asAddr, yi_loadVar hx hy hr hp, yi_loadVar hx2 hy2 hr hp]
/-- A deferred function that first asks what there is to recover. -/
theorem callsD_rec {P : Program} {f : FuncId} {fn : Func} {tl : Code} {args : List Value} {u u' : FrameMode} {w : World} {R : Ending → FrameMode → World → Prop} {id d d' : Nat} {o0 o1 : Oper} (v : Value) (F : Nat → Prop) (O S : List Fact)
    (hf : P.funcs[f]? = some fn) (hb : fn.body = some (.seq (.region id [o0, o1].toArray false) tl)) (hn : args.length ≤ fn.ntmps) (hd : d < fn.ntmps) (hd' : d' < fn.ntmps)
    (h0 : o0.op = .call ⟨.builtin .recover, #[], #[]⟩) (h0d : o0.dst = some d) (h0g : o0.guard = none) (h1 : o1.op = .assign (.tmp d)) (h1d : o1.dst = some d') (h1g : o1.guard = none)
    (hrec : ∀ (c₀ : Frame) (cs : List Frame), c₀.mode = u → (recoverD (c₀ :: cs) = some (v, { c₀ with mode := u' } :: cs)) ∨ (recoverD (c₀ :: cs) = none ∧ v = .nilIface ∧ u' = u))
    (hp : Hp F w O S w) (h : CJ ⟨P, none, F, w, fn.ntmps, []⟩ tl (bodyPost P fn (fun e w' => R e u' w')) ((d', v) :: (d, v) :: regsOf 0 args) O S) : CallsD P f args.toArray u w R := by
  refine callsD_of_wpS hf hb fun c₀ cs hu => wpS_seq (wpS_region ?_)
  have hr0 : RegsOk fn.ntmps [] (regsOf 0 args) { tmps := args.toArray ++ Array.replicate (fn.ntmps - args.toArray.size) undef, defers := [] } := by
    refine ⟨rfl, ?_, fun k v hk => ?_⟩
    · simp; omega
    · obtain ⟨_, h2⟩ := look_regsOf args 0 k v hk
      simp only [Nat.sub_zero] at h2
      have hk' : k < args.length := (List.getElem?_eq_some_iff.1 h2).1
      rw [Array.getElem?_append_left (by simpa using hk')]
      simpa using h2
  generalize ha : ({ tmps := args.toArray ++ Array.replicate (fn.ntmps - args.toArray.size) undef, defers := [] } : Act) = a at hr0
  have hk : ∀ cs', cs' = { c₀ with mode := u' } :: cs → tl.wpS P (bodyPostS P fn c₀ cs R) ((a.put (some d) v).put (some d') v) cs' w := by
    intro cs' hcs
    subst hcs
    refine wpS_of_wp (wp_mono (wpIn_FR_none.1 (h _ w ((hr0.put hd v).put hd' v) hp)) fun e a' w' hq => ?_)
    cases e with
    | normal => obtain ⟨h3, v', h4, h5⟩ := hq; exact ⟨h3, u', rfl, v', h4, h5⟩
    | ret => obtain ⟨h3, v', h4, h5⟩ := hq; exact ⟨h3, u', rfl, v', h4, h5⟩
    | panic ch => obtain ⟨h3, h4⟩ := hq; exact ⟨h3, u', rfl, h4⟩
    | outgrown => exact ⟨u', hq⟩
    | exit id => exact hq.elim
    | goto l => exact hq.elim
  have hw0 : Region.wanted o0 (yielded [o0, o1].toArray a.tmps) = true := by simp [Region.wanted, h0g]
  have hw1 : ∀ tm, Region.wanted o1 (yielded [o0, o1].toArray tm) = true := fun tm => by simp [Region.wanted, h1g]
  have he0 : (execOp a.eval o0).run P w = .ok .recover w := by simp [execOp, h0, resolve, invoke, builtin]
  have he1 : (execOp (a.put (some d) v).eval o1).run P w = .ok (.value v) w := by
    have h3 : (a.put (some d) v).eval (.tmp d) = v := by
      have := (hr0.put hd v).val (x := .tmp d) (v := v) (by simp [Sx.val, look])
      exact this
    simp [execOp, h1, h3]
  have hl : List.range [o0, o1].toArray.size = [0, 1] := rfl
  rw [hl]
  unfold wpOpsS
  rw [show ([o0, o1].toArray)[0]? = some o0 from rfl]
  dsimp only
  rw [if_pos hw0, he0]
  dsimp only
  rcases hrec c₀ cs hu with h3 | ⟨h3, rfl, rfl⟩
  · rw [h3]
    dsimp only
    unfold wpOpsS
    rw [show ([o0, o1].toArray)[1]? = some o1 from rfl]
    dsimp only
    rw [if_pos (hw1 _), h0d, he1]
    simp only [Oper.upon, wpOpsS, Exit.thenS, h1d]
    exact hk _ rfl
  · rw [h3]
    dsimp only
    unfold wpOpsS
    rw [show ([o0, o1].toArray)[1]? = some o1 from rfl]
    dsimp only
    rw [if_pos (hw1 _), h0d, he1]
    simp only [Oper.upon, wpOpsS, Exit.thenS, h1d]
    refine hk _ ?_
    rw [← hu]
/-- A panic that is on its way is recovered. -/
theorem rec_pan (v : Value) (c₀ : Frame) (cs : List Frame) (h : c₀.mode = .panicking [{ v, recovered := false }]) : recoverD (c₀ :: cs) = some (v, { c₀ with mode := .panicking [{ v, recovered := true }] } :: cs) := by
  simp only [recoverD, h]
theorem rec_ret (c₀ : Frame) (cs : List Frame) (h : c₀.mode = .returning) : recoverD (c₀ :: cs) = none := by simp only [recoverD, h]
end
end Go.Sx
namespace Go.Sx
open Go.RowKit
section
variable {C : Cx} {Q : Exit → Act → World → Prop} {L : Regs} {O S : List Fact} {ops : Array Oper} {rest : List Oper} {ty : TypeId} {pos : String} {aft : Array Edge} {dst : Option Tmp} {gu : Option (Nat × Bool)} {t : TypeId}
/-- The queue: elements of a cell each, from the k-th cell of a block on. -/
def qu {α : Type} (e : TypeId) (en : α → Value) (b k c : Nat) (xs : List α) : Fact where
  fp := fun i => i = b
  P := fun w => ∃ cur, w.heap[b]? = some (.cells cur e (0, 0)) ∧ k + c ≤ cur.size ∧ xs.length ≤ c ∧ (cur.toList.drop k).take xs.length = xs.map en
  stab := fun h ⟨cur, h1, h2⟩ => ⟨cur, (h b rfl).trans h1, h2⟩
class UpdQu (O : List Fact) {α : Type} (e : outParam TypeId) (en : outParam (α → Value)) (b k c : Nat) (xs : List α) (f' : Fact) (O' : outParam (List Fact)) : Prop where
  rep : Rep O (qu e en b k c xs) f' O'
instance (priority := 900) UpdQu.tail {α : Type} (f : Fact) (O O' : List Fact) (e : TypeId) (en : α → Value) (b k c : Nat) (xs : List α) (f' : Fact) [h : UpdQu O e en b k c xs f' O'] : UpdQu (f :: O) e en b k c xs f' (f :: O') := ⟨.tail _ _ _ _ _ h.rep⟩
instance (priority := 1000) UpdQu.head {α : Type} (O : List Fact) (e : TypeId) (en : α → Value) (b k c : Nat) (xs : List α) (f' : Fact) : UpdQu (qu e en b k c xs :: O) e en b k c xs f' (f' :: O) := ⟨.head _ _ _⟩
/-- A block of one's own, told in other words. -/
class UpdB1 (O : List Fact) (b : Nat) (ob : outParam Obj) (f' : Fact) (O' : outParam (List Fact)) : Prop where
  rep : Rep O (ownB b ob) f' O'
instance (priority := 900) UpdB1.tail (f : Fact) (O O' : List Fact) (b : Nat) (ob : Obj) (f' : Fact) [h : UpdB1 O b ob f' O'] : UpdB1 (f :: O) b ob f' (f :: O') := ⟨.tail _ _ _ _ _ h.rep⟩
instance (priority := 1000) UpdB1.head (O : List Fact) (b : Nat) (ob : Obj) (f' : Fact) : UpdB1 (ownB b ob :: O) b ob f' (f' :: O) := ⟨.head _ _ _⟩
theorem qu_cell {α : Type} {e : TypeId} {en : α → Value} {b k c : Nat} {xs : List α} {w : World} (h : (qu e en b k c xs).P w) {i : Nat} {x : α} (hx : xs[i]? = some x) : w.cell? ⟨b, k + i, none⟩ = some (en x) := by
  obtain ⟨cur, h1, h2, h3, h4⟩ := h
  rw [cell_of_row w b (k + i) cur e (0, 0) h1]
  have hi := (List.getElem?_eq_some_iff.1 hx).1
  have h5 : ((cur.toList.drop k).take xs.length)[i]? = some (en x) := by rw [h4, List.getElem?_map, hx]; rfl
  rw [List.getElem?_take_of_lt hi, List.getElem?_drop] at h5
  simpa using h5
theorem reads_qu {α : Type} {e : TypeId} {en : α → Value} {b k c : Nat} {xs : List α} (hm : qu e en b k c xs ∈ O) : Reads C O S 1 (fun x => [en x]) (some ⟨b, k, none⟩) xs := fun w hp _ => by
  refine ⟨⟨b, k, none⟩, rfl, fun i x j u hx hu => ?_⟩
  have hj : j = 0 := by
    have := (List.getElem?_eq_some_iff.1 hu).1
    simp at this; exact this
  subst hj
  have hu' : en x = u := by simpa using hu
  rw [addr_add, ← hu']
  have := qu_cell (hp.own _ hm).1 hx
  simpa using this
/-- A literal becomes a queue. -/
theorem cj_quOf {cd : Code} {α : Type} {e b : Nat} {cs : List Value} {O' : List Fact} (en : α → Value) (xs : List α) (hcs : xs.map en = cs) [hu : UpdB1 O b (cellsB e cs) (qu e en b 0 xs.length xs) O'] (k : CJ C cd Q L O' S) : CJ C cd Q L O S := fun a w hr hp => k a w hr (by
  have hm := (hp.own _ hu.rep.mem)
  refine hp.write hu.rep rfl rfl rfl (Nat.le_refl _) (fun _ _ _ => rfl) ⟨cs.toArray, hm.1, ?_, Nat.le_refl _, ?_⟩ (fun c hc => ⟨hm.2 c hc |>.1, .inl hc⟩)
  · subst hcs; simp
  · subst hcs
    rw [List.drop_zero]
    exact List.take_of_length_le (by simp))
/-- The head is cut off. -/
theorem cj_quCut {cd : Code} {α : Type} {e b k c : Nat} {en : α → Value} {x : α} {xs : List α} {O' : List Fact} [hu : UpdQu O e en b k c (x :: xs) (qu e en b (if c = 1 then k else k + 1) (c - 1) xs) O'] (kk : CJ C cd Q L O' S) : CJ C cd Q L O S := fun a w hr hp => kk a w hr (by
  have hm := (hp.own _ hu.rep.mem)
  refine hp.write hu.rep rfl rfl rfl (Nat.le_refl _) (fun _ _ _ => rfl) ?_ (fun c hc => ⟨hm.2 c hc |>.1, .inl hc⟩)
  obtain ⟨cur, h1, h2, h3, h4⟩ := hm.1
  simp only [List.length_cons] at h3
  refine ⟨cur, h1, ?_, by omega, ?_⟩
  · split <;> omega
  · by_cases hc : c = 1
    · have : xs = [] := List.eq_nil_of_length_eq_zero (by omega)
      subst this; simp
    · rw [if_neg hc]
      have h5 := congrArg (List.drop 1) h4
      rw [List.drop_take, List.drop_drop] at h5
      simpa using h5)
theorem subA_q (b k c : Nat) : subA (some (⟨b, k, none⟩ : Addr)) c 1 1 = some ⟨b, if c = 1 then k else k + 1, none⟩ := by
  unfold subA
  split
  · rfl
  · simp [addr_add]
theorem y_quCut {α : Type} {e b k c : Nat} {lo : Operand} {x : Operand} {y : α} {xs : List α} (hu : C.P.underlying t = some (.slice e)) (hs : ∀ w, (sizeOf e).run C.P w = .ok 1 w) (hx : val L x = some (.slice (some ⟨b, k, none⟩) (y :: xs).length c)) (hlo : val L lo = some (.int .i64 1)) (hc : (y :: xs).length ≤ c) :
    Yi C ⟨dst, .slice t x (some lo) none none, ty, pos, aft, gu⟩ L O S (.slice (some ⟨b, if c = 1 then k else k + 1, none⟩) xs.length (c - 1)) := by
  have h := y_sliceR (C := C) (O := O) (S := S) (dst := dst) (ty := ty) (pos := pos) (aft := aft) (gu := gu) (xs := y :: xs) (lo := some lo) (hi := none) 1 (y :: xs).length hu hs hx hlo rfl (by simp) (Nat.le_refl _) hc
  rw [subA_q, List.take_length] at h
  exact h
/-- One more at the end. -/
theorem oj_quAppend {α : Type} {e bytes b k c c2 b2 d : Nat} {s x : Operand} {en : α → Value} {xs : List α} {y : α} {O' : Nat → Nat → Nat → List Fact} (hE : ElemIs C.P t e 1 bytes) (hone : ∀ x, (en x).oneCell' = true)
    (hs : val L s = some (.slice (some ⟨b, k, none⟩) xs.length c)) (hx : val L x = some (.slice (some ⟨b2, 0, none⟩) 1 c2)) (hrd : Reads C O S 1 (fun x => [en x]) (some ⟨b2, 0, none⟩) [y])
    (hlen : xs.length + 1 ≤ 9223372036854775807) (hby : (xs.length + 1) * bytes ≤ 140737488355328) (hdN : Nat.blt d C.N = true)
    [hu : ∀ b' k' c', UpdQu O e en b k c xs (qu e en b' k' c' (xs ++ [y])) (O' b' k' c')]
    (kk : ∀ b' k' c', OJ C ops Q rest ((d, .slice (some ⟨b', k', none⟩) (xs ++ [y]).length c') :: L) (O' b' k' c') S) : OJ C ops Q (⟨some d, .call ⟨.builtin .append, #[s, x], #[t, t]⟩, ty, pos, aft, none⟩ :: rest) L O S := by
  intro a w hr hp
  have hdN' : d < C.N := by simpa [Nat.blt_eq] using hdN
  unfold wpListIn
  rw [if_pos (by simp [Region.wanted])]
  refine ⟨fun _ _ => trivial, ?_⟩
  rw [Oper.semAt_eq _ _ _ (by intro c h; cases h)]
  obtain ⟨i, z, hut, hi, hz, hsz, hbt, hzs, hpos⟩ := hE.ex
  obtain ⟨hP, hlt⟩ := hp.own _ (hu 0 0 0).rep.mem
  obtain ⟨cur, h1, h2, h3, h4⟩ := hP
  obtain ⟨ad, had, hc⟩ := hrd w hp (by simp)
  injection had with had
  subst had
  have hnews : ∀ j u, ([en y])[j]? = some u → w.cell? ((⟨b2, 0, none⟩ : Addr).add j) = some u := by
    intro j u hj
    have hj0 : j = 0 := by
      have := (List.getElem?_eq_some_iff.1 hj).1
      simp at this; exact this
    subst hj0
    have := hc 0 y 0 u rfl hj
    simpa using this
  have h1c : ∀ u ∈ [en y], u.oneCell' = true := fun u hu => by rw [List.mem_singleton.1 hu]; exact hone y
  have hblt : b < w.heap.size := (hlt b rfl)|>.1
  have hcell : ∀ (j : Nat) (v : Value), (xs.map en)[j]? = some v → w.cell? ((⟨b, k, none⟩ : Addr).add j) = some v := by
    intro j v hj
    rw [List.getElem?_map, Option.map_eq_some_iff] at hj
    obtain ⟨q, hq, rfl⟩ := hj
    rw [addr_add]
    exact qu_cell (e := e) (c := c) ⟨cur, h1, h2, h3, h4⟩ hq
  have hf := run_firstCells_some (P := C.P) w i.size 1 ⟨b2, 0, none⟩ 1 c2 [en y] (by rw [hsz]; rfl) hnews
  by_cases hroom : xs.length + 1 ≤ c
  · have hst := run_storeCells_at C.P b (k + xs.length) e [en y] 0 cur w h1 (by simp; omega) h1c
    simp only [Nat.add_zero] at hst
    have hrun : (execOp a.eval ⟨some d, .call ⟨.builtin .append, #[s, x], #[t, t]⟩, ty, pos, aft, none⟩).run C.P w = .ok (.value (.slice (some ⟨b, k, none⟩) (xs.length + 1) c)) (w.setRow b (cur.toList.take (k + xs.length) ++ [en y] ++ cur.toList.drop (k + xs.length + 1)).toArray) := by
      have hf' := run_firstCells_some (P := C.P) w 1 1 ⟨b2, 0, none⟩ 1 c2 [en y] rfl hnews
      simp [execOp, resolve, invoke, builtin, hr.val hs, hr.val hx, Builtin.append_, run_underlying hut, sizeOf, typeInfo, hi, hsz, Builtin.lenOf, hroom, hf', addr_add, hst]
    rw [hrun]
    show wpListIn _ _ _ _ _ _ _ _
    have := kk b k c (a.put (some d) (.slice (some ⟨b, k, none⟩) (xs ++ [y]).length c)) (w.setRow b (cur.toList.take (k + xs.length) ++ [en y] ++ cur.toList.drop (k + xs.length + 1)).toArray) (hr.put hdN' _) ?_
    · rw [List.length_append] at this; exact this
    · refine hp.write (hu b k c).rep rfl rfl rfl (by simp) (fun q hq hne => setRow_other w b q _ (fun hbq => hne hbq)) ?_ (fun q hq => ⟨?_, .inl hq⟩)
      · have hcs : (k + xs.length) ≤ cur.toList.length := by simp; omega
        refine ⟨_, setRow_heap w b cur _ e _ h1, ?_, by rw [List.length_append]; exact hroom, ?_⟩
        · simp only [List.size_toArray, List.length_append, List.length_take, List.length_drop, List.length_cons, List.length_nil, Array.length_toList]
          omega
        · have hd : (cur.toList.take (k + xs.length)).drop k = xs.map en := by rw [List.drop_take, Nat.add_sub_cancel_left]; exact h4
          have hl : (cur.toList.take (k + xs.length)).length = k + xs.length := by rw [List.length_take]; omega
          show (List.drop k ((cur.toList.take (k + xs.length) ++ [en y]) ++ _)).take _ = _
          rw [List.drop_append_of_le_length (by rw [List.length_append, hl]; omega), List.drop_append_of_le_length (by omega), hd, List.map_append]
          rw [show (xs ++ [y]).length = (xs.map en ++ [en y]).length by simp]
          exact List.take_left
      · have hq' : q = b := hq
        subst hq'; simpa using hblt
  · have hr2 := run_append_grow (P := C.P) w t ty e i z hut hi hz ⟨b, k, none⟩ xs.length c (xs.map en) (by rw [hsz, Nat.mul_one, List.length_map]) hcell ⟨b2, 0, none⟩ 1 c2 [en y] (by rw [hsz]; rfl) hnews (by omega) (by omega) (growslice_fits (by omega) (by rw [hbt]; exact hby))
    have hrun : (execOp a.eval ⟨some d, .call ⟨.builtin .append, #[s, x], #[t, t]⟩, ty, pos, aft, none⟩).run C.P w = .ok (.value (.slice (some ⟨w.heap.size, 0, none⟩) (xs.length + 1) (grownCap w (xs.length + 1) c e)))
        (w.drew.alloc (.cells ((xs.map en).toArray ++ [en y].toArray ++ Builtin.zeroCells z.cells (grownCap w (xs.length + 1) c e - (xs.length + 1))) e)) := by
      simp [execOp, resolve, invoke, builtin, hr.val hs, hr.val hx, hr2]
    rw [hrun]
    show wpListIn _ _ _ _ _ _ _ _
    have := kk w.heap.size 0 (grownCap w (xs.length + 1) c e) (a.put (some d) (.slice (some ⟨w.heap.size, 0, none⟩) (xs ++ [y]).length (grownCap w (xs.length + 1) c e))) (w.drew.alloc (.cells ((xs.map en).toArray ++ [en y].toArray ++ Builtin.zeroCells z.cells (grownCap w (xs.length + 1) c e - (xs.length + 1))) e)) (hr.put hdN' _) ?_
    · rw [List.length_append] at this; exact this
    · have hge := grownCap_ge w (xs.length + 1) c e
      refine hp.write (hu _ _ _).rep rfl rfl rfl (by simp) (fun q hq _ => Go.heap_alloc_old w.drew _ hq) ?_ (fun q hq => ⟨?_, .inr ?_⟩)
      · refine ⟨_, Go.heap_alloc_new w.drew _, ?_, by rw [List.length_append]; exact hge, ?_⟩
        · simp only [Array.size_append, List.size_toArray, size_zeroCells, hzs, List.length_map, List.length_cons, List.length_nil]
          omega
        · simp only [List.drop_zero, Array.toList_append, List.map_append, List.map_cons, List.map_nil]
          rw [show (xs ++ [y]).length = ((xs.map en).toArray.toList ++ [en y].toArray.toList).length by simp]
          exact List.take_left
      · have hq' : q = w.heap.size := hq
        subst hq'; simp
      · have hq' : q = w.heap.size := hq
        omega
/-! ### Frozen facts -/
theorem owSl {α : Type} {fp' : Nat → Prop} {e sz c : Nat} {enc : α → List Value} {A : Option Addr} {xs : List α} {w : World} (h : (ow e sz enc A c xs).P w) (he : ∀ x, (enc x).length = sz) (hm : xs.length ≤ maxLen) (hf : ∀ b, (ow e sz enc A c xs).fp b → fp' b) : (sl fp' sz enc A xs).P w := by
  refine ⟨hm, fun hne => ?_⟩
  have h' : w.ownsRow 0 e sz (.slice A xs.length c) xs.length (xs.flatMap enc) := h
  have hA : A ≠ none := by
    rintro rfl
    rcases h'.2 with ⟨_, h2⟩ | ⟨g, cap, cur, hv, _⟩
    · exact hne (List.eq_nil_of_length_eq_zero h2)
    · injection hv with hv; cases hv
  obtain ⟨a, rfl⟩ := Option.ne_none_iff_exists'.1 hA
  have hz : a = ⟨a.block, 0, none⟩ := by
    rcases h'.2 with ⟨h1, _⟩ | ⟨g, cap, cur, hv, _⟩
    · injection h1 with h1; cases h1
    · injection hv with hv; injection hv with hv; rw [hv]
  refine ⟨a, rfl, hf _ rfl, fun i x j u hx hu => ?_⟩
  have hj : j < sz := by
    have := (List.getElem?_eq_some_iff.1 hu).1
    rw [he] at this; exact this
  have h3 := flatMap_get enc sz he xs i x j hx hj
  rw [hu] at h3
  have := h'.cells (g := a.block) rfl (i * sz + j) u h3
  rwa [← hz] at this
theorem Hp.frzS {F : Nat → Prop} {w0 w : World} {O O' S : List Fact} (hp : Hp F w0 O S w) (o f : Fact) (hs : (o :: O').Sublist O) (hP : f.P w) (hfp : ∀ b, f.fp b → o.fp b ∨ ∃ g ∈ S, g.fp b) : Hp F w0 O' (f :: S) w := by
  have h1 := hp.sub (O' := o :: O') (S' := S) hs (fun _ h => h)
  have h2 := hp.sub (O' := O') (S' := S) ((List.sublist_cons_self o O').trans hs) (fun _ h => h)
  refine ⟨h2.os, h2.tape, h2.output, h2.size, h2.fr, h2.own, h2.apart, fun g hg => ?_⟩
  rcases List.mem_cons.1 hg with rfl | hg
  · refine ⟨hP, fun b hb => ?_, fun q hq b hb hqb => ?_⟩
    · rcases hfp b hb with h | ⟨g, hg, h⟩
      · exact ((h1.own o (List.mem_cons_self ..)).2 b h).1
      · exact (h2.shared g hg).2.1 b h
    · rcases hfp b hb with h | ⟨g, hg, h⟩
      · exact (List.pairwise_cons.1 h1.apart).1 q hq b h hqb
      · exact (h2.shared g hg).2.2 q hq b h hqb
  · exact h2.shared g hg
theorem cj_frzS {cd : Code} {O' : List Fact} (o f : Fact) [hs : SubO (o :: O') O] (hP : ∀ w, Hp C.F C.w0 O S w → f.P w) (hfp : ∀ b, f.fp b → o.fp b ∨ ∃ g ∈ S, g.fp b) (k : CJ C cd Q L O' (f :: S)) : CJ C cd Q L O S :=
  fun a w hr hp => k a w hr (Hp.frzS hp o f hs.sub (hP w hp) hfp)
theorem oj_frzS {O' : List Fact} (o f : Fact) [hs : SubO (o :: O') O] (hP : ∀ w, Hp C.F C.w0 O S w → f.P w) (hfp : ∀ b, f.fp b → o.fp b ∨ ∃ g ∈ S, g.fp b) (k : OJ C ops Q rest L O' (f :: S)) : OJ C ops Q rest L O S :=
  fun a w hr hp => k a w hr (Hp.frzS hp o f hs.sub (hP w hp) hfp)
/-- A call whose result may be about what is shared already, or about new blocks. -/
theorem oj_callR {X : Type} {xs : List Operand} {vs : List Value} {ats : Array TypeId} {f : FuncId} {d : Nat} (enc : X → Value) (Sx : X → List Fact) (hf : ∀ args w, (callFunc f args).run C.P w = .ok (.enter f args) w) (hv : valsO L xs = some vs)
    (hc : ∀ w, Hp C.F C.w0 O S w → Calls C.P f vs.toArray w (fun e w' => ∃ x, e = .returned (enc x) ∧ Grow w w' ∧ ∀ g ∈ Sx x, g.P w' ∧ ∀ b, g.fp b → (∃ s ∈ S, s.fp b) ∨ (w.heap.size ≤ b ∧ b < w'.heap.size))) (hdN : Nat.blt d C.N = true)
    (k : ∀ x, OJ C ops Q rest ((d, enc x) :: L) O (Sx x ++ S)) : OJ C ops Q (⟨some d, .call ⟨.value (.func f), xs.toArray, ats⟩, ty, pos, aft, none⟩ :: rest) L O S := by
  intro a w hr hp
  have hdN' : d < C.N := by simpa [Nat.blt_eq] using hdN
  unfold wpListIn
  rw [if_pos (by simp [Region.wanted])]
  refine ⟨fun _ _ => trivial, ?_⟩
  rw [Oper.semAt_eq _ _ _ (by intro c h; cases h), run_call hr hf hv]
  refine ⟨fun h => (by cases h), callsIn_FR.2 ((hc w hp).mono fun e w' hx => ?_)⟩
  obtain ⟨x, rfl, hg, hS⟩ := hx
  have h1 := hp.grow hg
  refine k x _ w' (hr.put hdN' _) ⟨h1.os, h1.tape, h1.output, h1.size, h1.fr, h1.own, h1.apart, fun g hg' => ?_⟩
  rcases List.mem_append.1 hg' with hg' | hg'
  · refine ⟨(hS g hg').1, fun b hb => ?_, fun o ho b hb hob => ?_⟩
    · rcases (hS g hg').2 b hb with ⟨s, hs, h⟩ | h
      · exact (h1.shared s hs).2.1 b h
      · exact h.2
    · rcases (hS g hg').2 b hb with ⟨s, hs, h⟩ | h
      · exact (h1.shared s hs).2.2 o ho b h hob
      · have := ((hp.own o ho).2 b hob).1; omega
  · exact h1.shared g hg'
theorem oj_insert {t : TypeId} {x y z : Operand} (k : OJ C ops Q (⟨none, .mapUpdate t x y z, ty, pos, aft, none⟩ :: rest) L O S) : OJ C ops Q (⟨none, .insert t x y z, ty, pos, aft, none⟩ :: rest) L O S := by
  intro a w hr hp
  have h := k a w hr hp
  unfold wpListIn at h ⊢
  rw [if_pos (by simp [Region.wanted])] at h
  rw [if_pos (by simp [Region.wanted])]
  unfold Oper.wpIn at h ⊢
  rw [Oper.semAt_eq _ _ _ (by intro c h; cases h)] at h
  rw [Oper.semAt_eq _ _ _ (by intro c h; cases h)]
  exact ⟨fun _ _ => trivial, h.2⟩
end
end Go.Sx
namespace Go.Sx
open Go.RowKit
section
variable {C : Cx} {Q : Exit → Act → World → Prop} {L : Regs} {O S : List Fact} {ops : Array Oper} {rest : List Oper} {ty : TypeId} {pos : String} {aft : Array Edge} {dst : Option Tmp} {gu : Option (Nat × Bool)} {t : TypeId} {x y : Operand}
theorem take_tk {n k : Nat} {cs vs : List Value} (h : Tk n k cs vs) : (cs.drop k).take n = vs := by
  refine List.ext_getElem? fun j => ?_
  rw [List.getElem?_take]
  by_cases hj : j < n
  · rw [if_pos hj, List.getElem?_drop, h.eq j hj]
  · rw [if_neg hj, List.getElem?_eq_none (by rw [h.len]; omega)]
/-- An element of an array that lies in a register, several cells each. -/
theorem y_indexAN {e n m : Nat} {i : Int} {k : IntKind} {cs vs : List Value} (ht : C.P.underlying t = some (.array m e)) (hs : ∀ w, (sizeOf e).run C.P w = .ok n w) (ha : ∀ w, (isAgg e).run C.P w = .ok true w) (hx : val L x = some (.agg cs.toArray)) (hy : val L y = some (.int k i)) (hi : 0 ≤ i ∧ i < m) (hv : Tk n (i.toNat * n) cs vs) :
    Yi C ⟨dst, .index t x y, ty, pos, aft, gu⟩ L O S (.agg vs.toArray) :=
  yi_val (by intro c h; cases h) fun a w hr _ => by
    have he := take_tk hv
    simp [execOp, hr.val hx, hr.val hy, Instr.index, asIntOf, run_underlying ht, hi, part, hs, ha, he]
theorem ej_retC3 {fn : Func} {R : Ending → World → Prop} {p u1 u2 : Tmp} {t : TypeId} {a : Addr} {v x1 x2 : Value} (hD : C.D = []) (h : fn.results = #[.cell p t, .tmp u1, .tmp u2]) (hx : val L (.tmp p) = some (.pointer (some a))) (hy : Yi C ⟨none, .load t (.tmp p), 0, "", #[], none⟩ L O S v)
    (h1 : look L u1 = some x1) (h2 : look L u2 = some x2) (hR : ∀ w, Hp C.F C.w0 O S w → R (.returned (.tuple #[v, x1, x2])) w) :
    EJ C (bodyPost C.P fn R) .ret L O S := fun ac w hr hp => ⟨hr.defers.trans hD, _, by
      have h0 := getQ_of_look hr hx
      simp [results, h, h0, getQ_of_look hr h1, getQ_of_look hr h2, asAddr, yi_loadVar hx hy hr hp], hR w hp⟩
theorem tk_all (cs : List Value) {n : Nat} (h : cs.length = n) : Tk n 0 cs cs := ⟨fun j _ => by rw [Nat.zero_add], h⟩
theorem set_all (vs cs : List Value) (h : vs.length = cs.length) : SetC 0 vs cs vs := ⟨fun j => by
  by_cases hj : j < vs.length
  · rw [if_pos ⟨Nat.zero_le _, by omega⟩]; rfl
  · rw [if_neg (by omega), List.getElem?_eq_none (by omega), List.getElem?_eq_none (by omega)], h, by omega⟩
/-- == of two arrays, element by element. -/
theorem run_eq_arr {P : Program} {e len n d : Nat} {xs ys : Array Value} (q : Nat → Bool) (ht : P.underlying t = some (.array len e)) (hs : ∀ w, (sizeOf e).run P w = .ok n w)
    (hq : ∀ i, i < len → ∀ w, ∃ a b, (part e xs (i * n)).run P w = .ok a w ∧ (part e ys (i * n)).run P w = .ok b w ∧ (Op.equalIn d e a b).run P w = .ok (q i) w) (w : World) : (Op.equalIn (d + 1) t (.agg xs) (.agg ys)).run P w = .ok ((List.range len).all q) w := by
  simp only [Op.equalIn, Sem.run_bind, run_underlying ht, Result.andThen_ok, hs]
  simp only [Std.Legacy.Range.forIn_eq_forIn_range', Std.Legacy.Range.size, Nat.sub_zero, Nat.add_one_sub_one, Nat.div_one]
  rw [List.range_eq_range']
  have hq' : ∀ i ∈ List.range' 0 len, ∀ w, ∃ a b, (part e xs (i * n)).run P w = .ok a w ∧ (part e ys (i * n)).run P w = .ok b w ∧ (Op.equalIn d e a b).run P w = .ok (q i) w := fun i hi => hq i (by simpa using List.mem_range'_1.1 hi)
  generalize List.range' 0 len = is at hq'
  induction is with
  | nil => simp
  | cons i is ih =>
    obtain ⟨a, b, h1, h2, h3⟩ := hq' i (List.mem_cons_self ..) w
    simp only [List.forIn_cons, Sem.run_bind, h1, h2, h3, Result.andThen_ok, List.all_cons]
    cases q i with
    | false => simp
    | true => simpa using ih (fun j hj => hq' j (List.mem_cons_of_mem _ hj))
/-- The beginning of a slice. -/
theorem addr_zero (a : Addr) : a.add 0 = a := by cases a; simp [Addr.add]
theorem y_sliceTo {α : Type} {e sz c : Nat} {A : Option Addr} {xs : List α} (h : Nat) (hu : C.P.underlying t = some (.slice e)) (hs : ∀ w, (sizeOf e).run C.P w = .ok sz w) (hx : val L x = some (.slice A xs.length c)) (hy : val L y = some (.int .i64 (h : Nat))) (hh : h ≤ xs.length) (hc : xs.length ≤ c) :
    Yi C ⟨dst, .slice t x none (some y) none, ty, pos, aft, gu⟩ L O S (.slice A (xs.take h).length c) := by
  have h1 := y_slice (C := C) (O := O) (S := S) (dst := dst) (ty := ty) (pos := pos) (aft := aft) (gu := gu) (lo := none) (hi := some y) (l := 0) (h := h) hu hs hx rfl hy (Nat.zero_le _) (by omega)
  have e1 : (if c = 0 then A else A.map (·.add (0 * sz))) = A := by
    rw [Nat.zero_mul]
    cases A with
    | none => simp
    | some a => simp [addr_zero]
  rw [e1, Nat.sub_zero, Nat.sub_zero] at h1
  rw [List.length_take, Nat.min_eq_left hh]
  exact h1
theorem sl_take {α : Type} {fp : Nat → Prop} {sz : Nat} {enc : α → List Value} {A : Option Addr} {xs : List α} {w : World} (h : (sl fp sz enc A xs).P w) (n : Nat) : (sl fp sz enc A (xs.take n)).P w :=
  ⟨Nat.le_trans (by rw [List.length_take]; omega) h.1, fun hne => by
    obtain ⟨a, ha, hb, hc⟩ := h.2 (fun he => hne (by rw [he, List.take_nil]))
    refine ⟨a, ha, hb, fun i x j u hx hu => hc i x j u ?_ hu⟩
    rw [List.getElem?_take] at hx
    split at hx
    · exact hx
    · cases hx⟩
/-- An array of zero values. -/
theorem y_buildA0 {e n sz : Nat} {z : Value} {cs : List Value} (hu : C.P.underlying t = some (.array n e)) (hs : ∀ w, (sizeOf e).run C.P w = .ok sz w) (hz : ∀ w, (zeroValue t).run C.P w = .ok z w) (hc : z.cells = cs.toArray) : Yi C ⟨dst, .build t #[], ty, pos, aft, gu⟩ L O S (.agg cs.toArray) :=
  yi_val (by intro c h; cases h) fun a w hr _ => by
    simp only [execOp, Instr.build, Sem.run_bind, hz, Result.andThen_ok, run_underlying hu, hs, hc]
    simp [Instr.fill]
/-- What a map holds at a key that it has. -/
theorem y_lookupG {K V : Type} {ek : K → Value} {ev : V → Value} {kd : TypeDesc} {kt et : TypeId} {b : Nat} {l : List (K × V)} {kk : K} {v : V} [DecidableEq K] (d0 : V) (hat : getL l kk = some v) [hk : KeyE ek kd] [h : HasMp O b ek ev l] (ht : C.P.underlying t = some (.map kt et)) (hkt : C.P.underlying kt = some kd) (hz : ∀ w, (zeroValue et).run C.P w = .ok (ev d0) w)
    (hx : val L x = some (.map (some b))) (hy : val L y = some (ek kk)) : Yi C ⟨dst, .lookup t x y false, ty, pos, aft, gu⟩ L O S (ev v) := by
  have h1 := y_lookup1 (C := C) (L := L) (O := O) (S := S) (dst := dst) (ty := ty) (pos := pos) (aft := aft) (gu := gu) (ek := ek) (ev := ev) d0 ht hkt hz hx hy
  rw [hat] at h1
  exact h1
/-- An interface value against nil. -/
theorem y_neqNilI {t' : TypeId} {z : Value} (r : Bool) (ht : ∃ ms, C.P.underlying t = some (.interface ms)) (hx : val L x = some z) (hz : (z = .nilIface ∧ r = false) ∨ ((∃ tt v, z = .iface tt v) ∧ r = true)) :
    Yi C ⟨dst, .binOp .neq t x (.const .nilIface) t', ty, pos, aft, gu⟩ L O S (.bool r) :=
  yi_val (by intro c h; cases h) fun a w hr _ => by
    have h0 : a.eval (.const .nilIface) = .nilIface := rfl
    obtain ⟨ms, ht⟩ := ht
    rcases hz with ⟨rfl, rfl⟩ | ⟨⟨tt, v, rfl⟩, rfl⟩
    · have h : (Op.equal t .nilIface .nilIface).run C.P w = .ok true w := by
        have h1 : ∀ d : Nat, (Op.equalIn (d + 1) t .nilIface .nilIface).run C.P w = .ok true w := fun d => by simp [Op.equalIn, run_underlying ht]
        exact h1 9999
      simp [execOp, hr.val hx, h0, eqGuard, binOp, h]
    · have h : (Op.equal t (.iface tt v) .nilIface).run C.P w = .ok false w := by
        have h1 : ∀ d : Nat, (Op.equalIn (d + 1) t (.iface tt v) .nilIface).run C.P w = .ok false w := fun d => by simp [Op.equalIn, run_underlying ht]
        exact h1 9999
      simp [execOp, hr.val hx, h0, eqGuard, binOp, h]
end
end Go.Sx
namespace Go.Sx
open Go.RowKit
section
variable {C : Cx} {L : Regs} {O S : List Fact} {ty : TypeId} {pos : String} {aft : Array Edge} {dst : Option Tmp} {gu : Option (Nat × Bool)} {t t' : TypeId} {x y : Operand}
def orZ (a b : Int) : Int := IntKind.i64.wrap ((BitVec.ofInt 64 a ||| BitVec.ofInt 64 b).toNat : Int)
def andZ (a : Int) (c : Nat) : Nat := (BitVec.ofInt 64 a &&& BitVec.ofInt 64 (c : Int)).toNat
theorem bv_wrap (z : Int) : BitVec.ofInt 64 (IntKind.i64.wrap z) = BitVec.ofInt 64 z := by
  rw [IntKind.wrap_i64]
  apply BitVec.eq_of_toNat_eq
  rw [BitVec.toNat_ofInt, BitVec.toNat_ofInt]
  omega
theorem bv_nat (m : Nat) : BitVec.ofInt 64 (m : Int) = BitVec.ofNat 64 m := BitVec.ofInt_natCast ..
theorem and_bit {a : Int} {c i : Nat} (hc : c < 2 ^ 62) : (andZ a c).testBit i = ((BitVec.ofInt 64 a).getLsbD i && c.testBit i) := by
  unfold andZ
  rw [BitVec.testBit_toNat, BitVec.getLsbD_and]
  congr 1
  rw [← BitVec.testBit_toNat, nat_bv c (by omega)]
theorem and_le {a : Int} {c : Nat} (hc : c < 2 ^ 62) : andZ a c ≤ c := by
  have e : andZ a c &&& c = andZ a c := Nat.eq_of_testBit_eq fun i => by
    rw [Nat.testBit_and, and_bit hc]
    cases (BitVec.ofInt 64 a).getLsbD i <;> cases c.testBit i <;> rfl
  rw [← e]; exact Nat.and_le_right
theorem and_or {p c i : Nat} {n : Int} (hp : p < 2 ^ 62) (hc : c < 2 ^ 62) (h : p.testBit i = true) (h2 : c.testBit i = true) : (andZ (orZ p n) c).testBit i = true := by
  rw [and_bit hc, h2, Bool.and_true, orZ, bv_wrap, bv_nat, BitVec.ofNat_toNat, BitVec.setWidth_eq, BitVec.getLsbD_or, ← BitVec.testBit_toNat, nat_bv p (by omega), h, Bool.true_or]
theorem y_orZ {m n : Int} (hx : val L x = some (.int .i64 m)) (hy : val L y = some (.int .i64 n)) : Yi C ⟨dst, .binOp .or t x y t', ty, pos, aft, gu⟩ L O S (.int .i64 (orZ m n)) :=
  yi_val (by intro c h; cases h) fun a w hr _ => by
    have e : binOp .or t (.int .i64 m) (.int .i64 n) = pure (.int .i64 (orZ m n)) := by
      unfold binOp
      simp only [ne_eq, not_true_eq_false, if_false]
      rfl
    simp [execOp, hr.val hx, hr.val hy, eqGuard, e]
theorem y_andZ {m : Int} {c : Nat} (hx : val L x = some (.int .i64 m)) (hy : val L y = some (.int .i64 (c : Nat))) (hc : c < 2 ^ 62) : Yi C ⟨dst, .binOp .and t x y t', ty, pos, aft, gu⟩ L O S (.int .i64 ((andZ m c : Nat) : Int)) :=
  yi_val (by intro c h; cases h) fun a w hr _ => by
    have h1 : IntKind.i64.wrap ((andZ m c : Nat) : Int) = ((andZ m c : Nat) : Int) := IntWalk.i64_in _ (by have := and_le (a := m) hc; omega)
    have e : binOp .and t (.int .i64 m) (.int .i64 (c : Int)) = pure (.int .i64 ((andZ m c : Nat) : Int)) := by
      unfold binOp
      simp only [ne_eq, not_true_eq_false, if_false]
      exact congrArg (fun z => (pure (Value.int .i64 z) : Sem Value)) h1
    simp [execOp, hr.val hx, hr.val hy, eqGuard, e]
/-- An element of a slice whose length is known in other words. -/
theorem y_ixRm {α : Type} {m s e n c sz : Nat} {A : Option Addr} {i : Int} {k : IntKind} {enc : α → List Value} {xs : List α} (hm : m = xs.length) (hr0 : Reads C O S sz enc A xs) (hu : C.P.underlying s = some (.slice e)) (hs : ∀ w, (sizeOf e).run C.P w = .ok n w) (hx : val L x = some (.slice A m c)) (hy : val L y = some (.int k i)) (hi : 0 ≤ i ∧ i < m) :
    Yi C ⟨dst, .indexAddr s x y, ty, pos, aft, gu⟩ L O S (.pointer (some (at_ A (i.toNat * n)))) := by
  subst hm
  exact y_ixR hr0 hu hs hx hy hi
theorem oj_cutO {α : Type} {Q : Exit → Act → World → Prop} {ops : Array Oper} {rest : List Oper} {e : TypeId} {sz c : Nat} {enc : α → List Value} {A : Option Addr} {xs ys : List α} {O' : List Fact} (he : ∀ x, (enc x).length = sz) (hA : A = none → xs = [] ∧ c = 0) [hu : UpdOw O A e sz enc c (xs ++ ys) (ow e sz enc A c xs) O'] (k : OJ C ops Q rest L O' S) : OJ C ops Q rest L O S :=
  fun a w hr hp => k a w hr (hp.write hu.rep rfl rfl rfl (Nat.le_refl _) (fun _ _ _ => rfl) (ow_cut he hA (hp.own _ hu.rep.mem).1) (fun b hb => by
    have hb' : (ow e sz enc A c (xs ++ ys)).fp b := by
      have h1 : (Value.slice A xs.length c).ownBlock = some b := hb
      show (Value.slice A (xs ++ ys).length c).ownBlock = some b
      cases A with
      | none => simp [Value.ownBlock] at h1
      | some a => exact h1
    exact ⟨((hp.own _ hu.rep.mem).2 b hb').1, .inl hb'⟩))
end
end Go.Sx
namespace Go.Sx
open Go.RowKit
/-- Where the rest lies behind k elements. -/
def posT (N k : Nat) : Nat := if k < N then k else N - 1
abbrev rstV (bs N k : Nat) : Value := .slice (some ⟨bs, posT N k, none⟩) (N - k) (N - k)
section
variable {C : Cx} {Q : Exit → Act → World → Prop} {L : Regs} {O S : List Fact} {ops : Array Oper} {rest : List Oper} {ty : TypeId} {pos : String} {aft : Array Edge} {dst : Option Tmp} {gu : Option (Nat × Bool)} {t : TypeId} {x y : Operand}
theorem at_b (b k : Nat) : at_ (some (⟨b, 0, none⟩ : Addr)) (k * 1) = ⟨b, k, none⟩ := by
  show (⟨b, 0, none⟩ : Addr).add (k * 1) = _
  rw [addr_add]; simp
theorem y_ixT {s e N k bs : Nat} {kk : IntKind} (hk : k < N) (hu : C.P.underlying s = some (.slice e)) (hs : ∀ w, (sizeOf e).run C.P w = .ok 1 w) (hx : val L x = some (rstV bs N k)) (hy : val L y = some (.int kk 0)) :
    Yi C ⟨dst, .indexAddr s x y, ty, pos, aft, gu⟩ L O S (.pointer (some (at_ (some ⟨bs, 0, none⟩) (k * 1)))) := by
  have h := y_ix (C := C) (O := O) (S := S) (dst := dst) (ty := ty) (pos := pos) (aft := aft) (gu := gu) hu hs hx hy ⟨Int.le_refl _, by omega⟩ (by simp)
  have e1 : at_ (some (⟨bs, posT N k, none⟩ : Addr)) ((0 : Int).toNat * 1) = at_ (some ⟨bs, 0, none⟩) (k * 1) := by
    rw [at_b]
    show (⟨bs, posT N k, none⟩ : Addr).add ((0 : Int).toNat * 1) = _
    rw [addr_add, posT, if_pos hk]; rfl
  rw [e1] at h
  exact h
theorem y_sliceT {e N k bs : Nat} (hk : k < N) (hu : C.P.underlying t = some (.slice e)) (hs : ∀ w, (sizeOf e).run C.P w = .ok 1 w) (hx : val L x = some (rstV bs N k)) (hy : val L y = some (.int .i64 (1 : Nat))) :
    Yi C ⟨dst, .slice t x (some y) none none, ty, pos, aft, gu⟩ L O S (rstV bs N (k + 1)) := by
  have h := y_slice (C := C) (O := O) (S := S) (dst := dst) (ty := ty) (pos := pos) (aft := aft) (gu := gu) (lo := some y) (hi := none) (l := 1) (h := N - k) hu hs hx hy rfl (by omega) (Nat.le_refl _)
  have e1 : (if N - k = 1 then some (⟨bs, posT N k, none⟩ : Addr) else (some (⟨bs, posT N k, none⟩ : Addr)).map (·.add (1 * 1))) = some ⟨bs, posT N (k + 1), none⟩ := by
    unfold posT
    by_cases h1 : N - k = 1
    · rw [if_pos h1, if_pos hk, if_neg (by omega)]
      have : k = N - 1 := by omega
      rw [this]
    · rw [if_neg h1, if_pos hk, if_pos (by omega)]
      show some ((⟨bs, k, none⟩ : Addr).add (1 * 1)) = _
      rw [addr_add]
  rw [e1] at h
  show Yi C _ L O S (.slice _ (N - (k + 1)) (N - (k + 1)))
  rw [show N - (k + 1) = N - k - 1 by omega]
  exact h
end
end Go.Sx
namespace Go.Sx
open Go.RowKit
theorem Hp.belowN {w0 w : World} {O S : List Fact} (h : Hp (FrO w0 []) w0 O S w) : Grow w0 w := ⟨h.os, h.tape, h.output, h.size, fun b hb => (h.fr b ⟨hb, fun _ h => by cases h⟩).2⟩
section
variable {C : Cx} {Q : Exit → Act → World → Prop} {L : Regs} {O S : List Fact} {ops : Array Oper} {rest : List Oper}
/-- A slice from a place on. -/
theorem y_dropR {α : Type} {dst : Option Tmp} {gu : Option (Nat × Bool)} {ty t e : TypeId} {pos : String} {aft : Array Edge} {x y : Operand} {sz c : Nat} {A : Option Addr} {xs : List α} (l : Nat) (hu : C.P.underlying t = some (.slice e)) (hs : ∀ w, (sizeOf e).run C.P w = .ok sz w) (hx : val L x = some (.slice A xs.length c)) (hy : val L y = some (.int .i64 (l : Nat))) (hl : l ≤ xs.length) (hc : xs.length ≤ c) :
    Yi C ⟨dst, .slice t x (some y) none none, ty, pos, aft, gu⟩ L O S (.slice (subA A c l sz) (xs.drop l).length (c - l)) := by
  have h := y_sliceR (C := C) (O := O) (S := S) (dst := dst) (ty := ty) (pos := pos) (aft := aft) (gu := gu) (lo := some y) (hi := none) l xs.length hu hs hx hy rfl hl (Nat.le_refl _) hc
  rwa [List.take_length] at h
/-- Parts of a text. -/
theorem y_partS {dst : Option Tmp} {gu : Option (Nat × Bool)} {ty t : TypeId} {pos : String} {aft : Array Edge} {x y z : Operand} {s : ByteArray} {l h : Nat} (ht : C.P.underlying t = some .string) (hx : val L x = some (.string s)) (hy : val L y = some (.int .i64 (l : Nat))) (hz : val L z = some (.int .i64 (h : Nat))) (h1 : l ≤ h) (h2 : h ≤ s.size) :
    Yi C ⟨dst, .slice t x (some y) (some z) none, ty, pos, aft, gu⟩ L O S (.string (s.extract l h)) :=
  yi_val (by intro c h; cases h) fun a w hr _ => by
    have e := run_slice_string w t s .i64 .i64 (l : Int) (h : Int) ht (by omega) (by omega) (by omega)
    rw [Int.toNat_natCast, Int.toNat_natCast] at e
    simp only [execOp, hr.val hx, hr.val hy, hr.val hz, Option.map_some, Option.map_none]
    rw [Sem.run_bind, run_sliceAt_string w t _ _ _ _ ht, e]; rfl
theorem y_tailS {dst : Option Tmp} {gu : Option (Nat × Bool)} {ty t : TypeId} {pos : String} {aft : Array Edge} {x y : Operand} {s : ByteArray} {l : Nat} (ht : C.P.underlying t = some .string) (hx : val L x = some (.string s)) (hy : val L y = some (.int .i64 (l : Nat))) (h1 : l ≤ s.size) :
    Yi C ⟨dst, .slice t x (some y) none none, ty, pos, aft, gu⟩ L O S (.string (s.extract l s.size)) :=
  yi_val (by intro c h; cases h) fun a w hr _ => by
    have e := run_slice_string_l w t s ht .i64 (l : Int) (by omega) (by omega)
    rw [Int.toNat_natCast] at e
    simp only [execOp, hr.val hx, hr.val hy, Option.map_some, Option.map_none]
    rw [Sem.run_bind, run_sliceAt_string w t _ _ _ _ ht, e]; rfl
theorem oj_frzT {R : List Fact} (o f : Fact) [ht : Takes O [o] R] (hP : ∀ w, Hp C.F C.w0 O S w → f.P w) (hfp : ∀ b, f.fp b → o.fp b ∨ ∃ g ∈ S, g.fp b) (k : OJ C ops Q rest L R (f :: S)) : OJ C ops Q rest L O S :=
  fun a w hr hp => k a w hr (Hp.frzS (hp.permO ht.perm) o f (List.Sublist.refl _) (hP w hp) hfp)
/-- It panics: the deferred call recovers, takes what is one's own, and gives other things back. -/
theorem ej_panL {fn : Func} {R : Ending → World → Prop} {g : FuncId} {ca : Array Value} {ch ch' : List PanicEntry} (Os Ps : List Fact) {R1 : List Fact} [ht : Takes O Os R1] (hD : C.D = [⟨.fn (.func g) ca, #[]⟩]) (hf : ∀ args w, (callFunc g args).run C.P w = .ok (.enter g args) w) (hs : settle (.panicking ch') = .returning)
    (hc : ∀ w, Hp C.F C.w0 O S w → CallsD C.P g ca (.panicking ch) w (fun e u' w' => (∃ v, e = .returned v) ∧ u' = .panicking ch' ∧ Giv Os w w' Ps))
    (hres : ∀ a w, RegsOk C.N C.D L a → Hp C.F C.w0 (Ps ++ R1) S w → ∃ v, (results fn a.tmps).run C.P w = .ok v w ∧ R (.returned v) w) : EJ C (bodyPostD C.P fn R) (.panic ch) L O S := fun a w hr hp => by
  show Leaves C.P fn a.tmps R a.defers (.panicking ch) w
  rw [hr.defers, hD]
  refine ⟨by simp, _, _, g, ca, rfl, by simp [invoke, hf], ?_⟩
  intro c₀ cs hu0
  obtain ⟨e, u', w', fr, ⟨⟨v, rfl⟩, rfl, hg⟩, h1, h2, h3⟩ := hc w hp c₀ cs hu0
  refine ⟨_, _, w', fr, ?_, h1, h2, h3⟩
  show Leaves C.P fn a.tmps R [] (settle (.panicking ch')) w'
  rw [hs]
  exact hres a w' hr (hp.takeGiv ht.perm hg)
end
end Go.Sx
namespace Go.Proofs.YtlfbghkcfmcnlaaGreatDoor
open Go.Sx Go.RowKit
/-- The traits of all classes lie somewhere. -/
def clsF (fp : Nat → Prop) (g : List (ByteArray × ClassV)) : Fact where
  fp := fp
  P := fun w => ∀ p ∈ g, (sl fp 3 encTr p.2.At p.2.traits).P w
  stab := fun h k p hp => (sl fp 3 encTr p.2.At p.2.traits).stab h (k p hp)
theorem cls_add {F : Nat → Prop} {w0 w : World} {O S : List Fact} (hp : Hp F w0 O S w) {fp : Nat → Prop} {g : List (ByteArray × ClassV)} (hm : clsF fp g ∈ S) {p : ByteArray × ClassV} (hpm : p ∈ g) : (sl fp 3 encTr p.2.At p.2.traits).P w ∧ ∀ b, fp b → b < w.heap.size ∧ ∀ f ∈ O, ¬ f.fp b :=
  ⟨(hp.shared _ hm).1 p hpm, fun b hb => ⟨(hp.shared _ hm).2.1 b hb, fun f hf => (hp.shared _ hm).2.2 f hf b hb⟩⟩
/-- Something new is given beside. -/
theorem giv_add {w w' : World} {Os Ps : List Fact} (h : Giv Os w w' Ps) (f : Fact) (hP : f.P w') (hfp : ∀ b, f.fp b → w.heap.size ≤ b ∧ b < w'.heap.size) (hold : ∀ g ∈ Ps, ∀ b, g.fp b → b < w.heap.size) : Giv Os w w' (Ps ++ [f]) where
  mu := h.mu
  has := fun g hg => by
    rcases List.mem_append.1 hg with hg | hg
    · exact h.has g hg
    · rw [List.mem_singleton.1 hg]
      exact ⟨hP, fun b hb => ⟨(hfp b hb).2, .inr (hfp b hb).1⟩⟩
  apart := List.pairwise_append.2 ⟨h.apart, List.pairwise_singleton .., fun g hg q hq b hb hb2 => by
    rw [List.mem_singleton.1 hq] at hb2
    have := hold g hg b hb
    have := (hfp b hb2).1
    omega⟩
/-- What is owned beside a block that was given is new. -/
theorem _root_.Go.Sx.Hp.resQ {w0 w : World} {O S R : List Fact} {b : Nat} {ob0 ob : Obj} (hp : Hp (FrO w0 [ownB b ob0]) w0 O S w) {A : Option Addr} {e : TypeId} {c sz : Nat} {α : Type} {enc : α → List Value} {xs : List α} (ht : Takes O [ow e sz enc A c xs, ownB b ob] R) (he : ∀ x, (enc x).length = sz) (hm : xs.length ≤ maxLen) :
    (sl (fun i => w0.heap.size ≤ i ∧ i < w.heap.size) sz enc A xs).P w := by
  have h1 := hp.permO ht.perm
  refine ⟨hm, fun hn => ?_⟩
  obtain ⟨a, ha, hc⟩ := ow_cells (h1.own _ (List.mem_cons_self ..)).1 he hn
  have hfp : (ow e sz enc A c xs).fp a.block := by show (Value.slice A xs.length c).ownBlock = some a.block; rw [ha]; rfl
  have h2 := (h1.own _ (List.mem_cons_self ..)).2 a.block hfp
  have hne : a.block ≠ b := fun e1 => (List.pairwise_cons.1 h1.apart).1 (ownB b ob) (List.mem_cons_self ..) a.block hfp e1
  refine ⟨a, ha, ⟨Nat.le_of_not_lt fun hlt => h2.2 ⟨hlt, fun f hf hfb => ?_⟩, h2.1⟩, hc⟩
  rw [List.mem_singleton.1 hf] at hfb
  exact hne hfb
theorem cut_size {n t s : ByteArray} (h : cutP n t = some s) : s.size ≤ t.size := by
  rw [cut_some h]; simp
theorem cut_yes {n t : ByteArray} (h : (by_ (n ++ tEq)).isPrefixOf (by_ t) = true) : cutP n t = some ⟨(if (by_ (n ++ tEq)).isPrefixOf (by_ t) = true then (by_ t).drop (by_ (n ++ tEq)).length else by_ t).toArray⟩ := by
  rw [cutP, if_pos h, if_pos h]
theorem cut_not {n t : ByteArray} (h : (by_ (n ++ tEq)).isPrefixOf (by_ t) = false) : cutP n t = none := by
  rw [cutP, if_neg (by rw [h]; simp)]
theorem head_drop {T : List ByteArray} {k : Nat} {s : ByteArray} (h : T[k]? = some s) : (T.drop k).headD ⟨#[]⟩ = s ∧ (T.drop k).tail = T.drop (k + 1) ∧ T.drop k = s :: T.drop (k + 1) := by
  obtain ⟨h1, h2⟩ := List.getElem?_eq_some_iff.1 h
  rw [List.drop_eq_getElem_cons h1, h2]
  exact ⟨rfl, rfl, rfl⟩
theorem head_nil {T : List ByteArray} {k : Nat} (h : T.length ≤ k) : T.drop k = [] := List.drop_of_length_le h
theorem rdS_step {t : TraitV} {ts : List TraitV} {T : List ByteArray} {k : Nat} {s : ByteArray} (h : cutP t.name ((T.drop k).headD ⟨#[]⟩) = some s) (hs : s ≠ ⟨#[]⟩) : rdS (t :: ts) (T.drop k) = (rdS ts (T.drop (k + 1))).map fun o => (s :: o.1, o.2) := by
  rw [rdS, h]
  dsimp only
  rw [if_neg hs, List.tail_drop]
theorem rdS_skip {t : TraitV} {ts : List TraitV} {T : List ByteArray} {k : Nat} (h : cutP t.name ((T.drop k).headD ⟨#[]⟩) = none) : rdS (t :: ts) (T.drop k) = (rdS ts (T.drop k)).map fun o => (⟨#[]⟩ :: o.1, o.2) := by rw [rdS, h]
theorem rdS_bad {t : TraitV} {ts : List TraitV} {T : List ByteArray} {k : Nat} (h : cutP t.name ((T.drop k).headD ⟨#[]⟩) = some ⟨#[]⟩) : rdS (t :: ts) (T.drop k) = none := by
  rw [rdS, h]
  dsimp only
  rw [if_pos rfl]
def aftI (g : List (ByteArray × ClassV)) (d : Nat) (s : ByteArray) (o : Option (List ByteArray × List ByteArray)) : Option (IT × List ByteArray) := match o with
  | none => none
  | some (ss, []) => some (.mk s ss [], [])
  | some (ss, t :: q) => if t = tOpen then (rdP (rdI g d) q.length q).map (fun o => (.mk s ss o.1, o.2)) else some (.mk s ss [], t :: q)
theorem rdI_s {g : List (ByteArray × ClassV)} {d : Nat} {T : List ByteArray} {k : Nat} {s : ByteArray} {c : ClassV} (hs : T[k]? = some s) (hc : getL g s = some c) : rdI g (d + 1) (T.drop k) = aftI g d s (rdS c.traits (T.drop (k + 1))) := by
  rw [(head_drop hs).2.2, rdI, hc]; rfl
theorem aftI_none (g : List (ByteArray × ClassV)) (d : Nat) (s : ByteArray) : aftI g d s none = none := rfl
theorem aftI_open {g : List (ByteArray × ClassV)} {d : Nat} {s t : ByteArray} {ss q : List ByteArray} (h : t = tOpen) : aftI g d s (some (ss, t :: q)) = (rdP (rdI g d) q.length q).map (fun o => (.mk s ss o.1, o.2)) := by
  show (if t = tOpen then _ else _) = _
  rw [if_pos h]
theorem aftI_stop {g : List (ByteArray × ClassV)} {d : Nat} {s : ByteArray} {ss q : List ByteArray} (h : ¬ q.headD ⟨#[]⟩ = tOpen) : aftI g d s (some (ss, q)) = some (.mk s ss [], q) := by
  cases q with
  | nil => rfl
  | cons t q =>
    have h : ¬ t = tOpen := h
    show (if t = tOpen then _ else _) = _
    rw [if_neg h]
/-- The rest of a reading, when some of it is done. -/
def aftS (ss : List ByteArray) (o : Option (List ByteArray × List ByteArray)) : Option (List ByteArray × List ByteArray) := o.map fun o => (ss ++ o.1, o.2)
theorem aftS_one (ss : List ByteArray) (s : ByteArray) (o : Option (List ByteArray × List ByteArray)) : aftS ss (o.map fun o => (s :: o.1, o.2)) = aftS (ss ++ [s]) o := by
  cases o <;> simp [aftS]
def aftP (ps : List IT) (o : Option (List IT × List ByteArray)) : Option (List IT × List ByteArray) := o.map fun o => (ps ++ o.1, o.2)
theorem aftP_one (ps : List IT) (p : IT) (o : Option (List IT × List ByteArray)) : aftP ps (o.map fun o => (p :: o.1, o.2)) = aftP (ps ++ [p]) o := by
  cases o <;> simp [aftP]
end Go.Proofs.YtlfbghkcfmcnlaaGreatDoor
namespace Go.Proofs.YtlfbghkcfmcnlaaGreatDoor
open Go.Sx Go.RowKit
abbrev zIV : ItemV := .mk ⟨#[]⟩ none 0 [] none 0 []
/-- What Parse returns: a description and an error. -/
inductive PrsR (l : List ClassV) (s : ByteArray) : ItemV → Int → Prop
  | gram (h : gramOk l = false) : PrsR l s zIV 10
  | limit (h : gramOk l = true) (hs : 65536 < s.size) : PrsR l s zIV 3
  | form (h : gramOk l = true) (hs : s.size ≤ 65536) (hn : ∀ y : ItemV, rdI (gramM l) 3 (splitT s) = some (y.pl, []) → itemOk l y = false) : PrsR l s zIV 5
  | ok (h : gramOk l = true) (hs : s.size ≤ 65536) (x : ItemV) (hr : rdI (gramM l) 3 (splitT s) = some (x.pl, [])) (ho : itemOk l x = true) : PrsR l s x 0
/-! What was printed is parsed as it was. -/
theorem ask_one {l : List ClassV} {x : ItemV} : askIOk l [x] = (gramOk l && itemOk l x) := by simp [askIOk]
theorem rdI_txt {l : List ClassV} (hg : gramOk l = true) {x : ItemV} (ho : itemOk l x = true) : (txtT (gramM l) x.pl).size ≤ 10000 ∧ rdI (gramM l) 3 (splitT (txtT (gramM l) x.pl)) = some (x.pl, []) := by
  have hk : askIOk l [x] = true := by rw [ask_one, hg, ho]; rfl
  obtain ⟨hT, hc⟩ := ask_T hk x (List.mem_cons_self ..)
  have hN := ask_N hk x (List.mem_cons_self ..)
  have ho2 := ho
  unfold itemOk at ho2
  obtain ⟨n, hn⟩ := Option.isSome_iff_exists.1 ho2
  have hd := val_dep x 1 (fits_val hg x 1 24 n hn)
  refine ⟨txt_size hT hc, ?_⟩
  have hs : splitT (txtT (gramM l) x.pl) = tokT (gramM l) x.pl := by
    unfold txtT
    have hb := tok_noB x.pl hN
    cases h : tokT (gramM l) x.pl with
    | nil => exact absurd h (tok_ne _ _)
    | cons t T => rw [h] at hb; exact split_jn hb
  rw [hs]
  have h1 := tok_rdI 3 x.pl [] hN hT (by omega) trivial
  rwa [List.append_nil] at h1
theorem prs_print {l : List ClassV} {x y : ItemV} {E : Int} (ho : askIOk l [x] = true) (h : PrsR l (PrnT l x) y E) : E = 0 ∧ y.pl = x.pl := by
  have hk := ho
  rw [ask_one, Bool.and_eq_true] at hk
  obtain ⟨h1, h2⟩ := rdI_txt hk.1 hk.2
  have hp : PrnT l x = txtT (gramM l) x.pl := by rw [PrnT, ho]; rfl
  rw [hp] at h
  cases h with
  | gram h => rw [h] at hk; cases hk.1
  | limit h hs => omega
  | form h hs hn =>
    have := hn x h2
    rw [this] at hk; cases hk.2
  | ok h hs _ hr ho =>
    rw [h2] at hr
    injection hr with hr
    injection hr with hr _
    exact ⟨rfl, hr.symm⟩
theorem prs_back {l : List ClassV} {s : ByteArray} {y : ItemV} (h : PrsR l s y 0) : askIOk l [y] = true ∧ PrnT l y = s := by
  cases h with
  | ok h hs _ hr ho =>
    have hk : askIOk l [y] = true := by rw [ask_one, h, ho]; rfl
    refine ⟨hk, ?_⟩
    rw [PrnT, hk]
    have h1 := rdI_tok _ _ _ _ _ hr
    rw [List.append_nil] at h1
    show txtT (gramM l) y.pl = s
    rw [txtT, ← h1, jn_split]
theorem prs_no {l : List ClassV} {s : ByteArray} {y : ItemV} {E : Int} (h : PrsR l s y E) (hE : E ≠ 0) : y = zIV := by
  cases h with
  | gram h => rfl
  | limit h hs => rfl
  | form h hs hn => rfl
  | ok h hs _ hr ho => exact absurd rfl hE
theorem prn_size {l : List ClassV} {x : ItemV} (ho : askIOk l [x] = true) : (PrnT l x).size ≤ 10000 := by
  have hk := ho
  rw [ask_one, Bool.and_eq_true] at hk
  have hp : PrnT l x = txtT (gramM l) x.pl := by rw [PrnT, ho]; rfl
  rw [hp]; exact (rdI_txt hk.1 hk.2).1
theorem ask_dep {l : List ClassV} {x : ItemV} (ho : askIOk l [x] = true) : depT x.pl ≤ 4 := by
  rw [ask_one, Bool.and_eq_true] at ho
  have ho2 := ho.2
  unfold itemOk at ho2
  obtain ⟨n, hn⟩ := Option.isSome_iff_exists.1 ho2
  have hd := val_dep x 1 (fits_val ho.1 x 1 24 n hn)
  omega
theorem askIE_0 {l : List ClassV} {x : ItemV} (ho : askIOk l [x] = true) : askIE l [x] = 0 := by
  rw [ask_one, Bool.and_eq_true] at ho
  simp [askIE, ho.1, ho.2]
end Go.Proofs.YtlfbghkcfmcnlaaGreatDoor
namespace Go.Proofs.YtlfbghkcfmcnlaaGreatDoor
open Go.Sx Go.RowKit
theorem by_part (s : ByteArray) (a b : Nat) : by_ (s.extract a b) = ((by_ s).drop a).take (b - a) := by
  simp [by_, ByteArray.data_extract, Array.toList_extract, List.extract_eq_take_drop]
theorem by_at {s : ByteArray} {i : Nat} {b : UInt8} (h : s[i]? = some b) : (by_ s)[i]? = some b := by
  by_cases hi : i < s.size
  · rw [getElem?_pos s i hi] at h
    injection h with h
    have h1 : i < s.data.size := hi
    have h2 : s.data[i] = b := h
    rw [by_, Array.getElem?_toList, Array.getElem?_eq_getElem h1, h2]
  · rw [getElem?_neg s i hi] at h; cases h
theorem ba_of (s : ByteArray) : (⟨(by_ s).toArray⟩ : ByteArray) = s := by cases s; simp [by_]
theorem by_one {s : ByteArray} {b0 i : Nat} {b : UInt8} (h : s[i]? = some b) (h0 : b0 ≤ i) : by_ (s.extract b0 (i + 1)) = by_ (s.extract b0 i) ++ [b] := by
  rw [by_part, by_part, show i + 1 - b0 = (i - b0) + 1 by omega, List.take_add_one, List.getElem?_drop, show b0 + (i - b0) = i by omega, by_at h]; rfl
theorem by_dr {s : ByteArray} {i : Nat} {b : UInt8} (h : s[i]? = some b) : (by_ s).drop i = b :: (by_ s).drop (i + 1) := by
  obtain ⟨h1, h2⟩ := List.getElem?_eq_some_iff.1 (by_at h)
  rw [List.drop_eq_getElem_cons h1, h2]
/-- The pieces from a place on. -/
def cutF (c : UInt8) (s : ByteArray) (b0 i : Nat) : List ByteArray := (cutA c (by_ (s.extract b0 i)) ((by_ s).drop i)).map fun l => ⟨l.toArray⟩
theorem cutF_hit {c : UInt8} {s : ByteArray} {b0 i : Nat} (h : s[i]? = some c) : cutF c s b0 i = s.extract b0 i :: cutF c s (i + 1) (i + 1) := by
  unfold cutF
  rw [by_dr h, cutA, if_pos rfl, List.map_cons, ba_of, by_part s (i + 1) (i + 1), Nat.sub_self, List.take_zero]
theorem cutF_miss {c b : UInt8} {s : ByteArray} {b0 i : Nat} (h : s[i]? = some b) (hb : b ≠ c) (h0 : b0 ≤ i) : cutF c s b0 i = cutF c s b0 (i + 1) := by
  unfold cutF
  rw [by_dr h, cutA, if_neg hb, by_one h h0]
theorem cutF_end {c : UInt8} {s : ByteArray} {b0 : Nat} : cutF c s b0 s.size = [s.extract b0 s.size] := by
  unfold cutF
  rw [List.drop_of_length_le (by simp [by_]), cutA, List.map_singleton, ba_of]
theorem cutF_0 (c : UInt8) (s : ByteArray) : cutF c s 0 0 = cutT c s := by
  unfold cutF cutT
  rw [by_part, Nat.sub_self, List.take_zero, List.drop_zero]
/-! how far the reference reads -/
theorem refP_bd {f : List ByteArray → IT × Nat} {d : Nat} (hf : ∀ U, (f U).2 ≤ U.length + d) (l : List ByteArray) : ∀ n at_, at_ ≤ l.length + d → (refP f l n at_).2 ≤ l.length + d
  | 0, at_, h => by rw [refP]; exact h
  | n + 1, at_, h => by
    rw [refP]
    cases hl : l[at_]? with
    | none => exact h
    | some t =>
      dsimp only
      split
      · exact h
      · have h1 := (List.getElem?_eq_some_iff.1 hl).1
        have h2 := hf (l.drop (at_ + 1))
        rw [List.length_drop] at h2
        exact refP_bd hf l n _ (by omega)
theorem refS_len (names : List ByteArray) : ∀ (r ss : List ByteArray), (refS names ss r).1.length = ss.length ∧ ∃ a, r = a ++ (refS names ss r).2
  | [], ss => by rw [refS]; exact ⟨rfl, [], rfl⟩
  | t :: r, ss => by
    rw [refS]
    split
    · rename_i a b _
      obtain ⟨h1, u, h2⟩ := refS_len names r (setS names ss a b)
      refine ⟨h1.trans ?_, t :: u, by rw [List.cons_append, ← h2]⟩
      unfold setS
      split
      · rw [List.length_set]
      · rfl
    · exact ⟨rfl, [], rfl⟩
theorem refI_bd (l : List ClassV) : ∀ (d : Nat) (T : List ByteArray), (refI l d T).2 ≤ T.length + d
  | 0, T => by rw [refI]; exact Nat.le_refl _
  | d + 1, [] => by rw [refI]; exact Nat.zero_le _
  | d + 1, s :: r => by
    rw [refI]
    split
    · rw [List.length_cons]; dsimp only; omega
    · rename_i ss t q h
      split
      · have h1 := refP_bd (refI_bd l d) (s :: r) (r.length + 1) (r.length - q.length) (by rw [List.length_cons]; omega)
        dsimp only
        omega
      · dsimp only; rw [List.length_cons]; omega
/-! what is cut is not longer; a part of a slice that is read -/
theorem cutA_sz (c : UInt8) : ∀ (l pre : List UInt8), ∀ u ∈ cutA c pre l, u.length ≤ pre.length + l.length
  | [], pre, u, h => by rw [cutA, List.mem_singleton] at h; subst h; simp
  | b :: l, pre, u, h => by
    rw [cutA] at h
    split at h
    · rcases List.mem_cons.1 h with rfl | h
      · simp
      · have := cutA_sz c l [] u h
        simp only [List.length_nil, List.length_cons] at this ⊢
        omega
    · have := cutA_sz c l (pre ++ [b]) u h
      simp only [List.length_append, List.length_cons, List.length_nil] at this ⊢
      omega
theorem cutT_sz (c : UInt8) (s : ByteArray) : ∀ u ∈ cutT c s, u.size ≤ s.size := by
  intro u hu
  obtain ⟨l, hl, rfl⟩ := List.mem_map.1 hu
  have := cutA_sz c _ _ l hl
  simp only [List.length_nil, Nat.zero_add] at this
  exact this
theorem rd_drop {α : Type} {w : World} {sz c : Nat} {enc : α → List Value} {A : Option Addr} {xs : List α} (h : Rd w sz enc A xs) (l : Nat) (hc : xs.length ≤ c) : Rd w sz enc (subA A c l sz) (xs.drop l) := by
  refine ⟨by have := h.1; rw [List.length_drop]; omega, fun hn => ?_⟩
  have hl : l < xs.length := Nat.lt_of_not_le fun h9 => hn (List.drop_of_length_le h9)
  obtain ⟨a, rfl, hb, hcell⟩ := h.2 (fun e => by rw [e] at hl; exact absurd hl (Nat.not_lt_zero _))
  refine ⟨a.add (l * sz), by simp [subA, show c ≠ l by omega], by rw [block_add]; exact hb, fun i y j u hy hu => ?_⟩
  rw [add_add, show l * sz + (i * sz + j) = (l + i) * sz + j by rw [Nat.add_mul]; omega]
  exact hcell (l + i) y j u (by rw [← List.getElem?_drop]; exact hy) hu
/-! the reference's reading, step by step -/
def tkD (T : List ByteArray) (i : Nat) : ByteArray := T[i]?.getD ⟨#[]⟩
theorem tkD_at {T : List ByteArray} {i : Nat} (h : i < T.length) : T[i]? = some (tkD T i) := by rw [tkD, List.getElem?_eq_getElem h]; rfl
theorem drop_tk {T : List ByteArray} {i : Nat} (h : i < T.length) : T.drop i = tkD T i :: T.drop (i + 1) := by
  have h1 := tkD_at h
  obtain ⟨h2, h3⟩ := List.getElem?_eq_some_iff.1 h1
  rw [List.drop_eq_getElem_cons h2, h3]
theorem firstS_lt (s : ByteArray) : ∀ (l : List ByteArray) (n : Nat), 0 ≤ firstS s l n → (firstS s l n).toNat < n + l.length
  | [], n, h => by rw [firstS] at h; omega
  | x :: l, n, h => by
    rw [firstS] at h ⊢
    split
    · rw [List.length_cons]; omega
    · rename_i hx
      rw [if_neg hx] at h
      have := firstS_lt s l (n + 1) h
      rw [List.length_cons]; omega
theorem refS_go {names ss T : List ByteArray} {i : Nat} {a b : ByteArray} (h : i < T.length) (hab : cutT 61 (tkD T i) = [a, b]) : refS names ss (T.drop i) = refS names (setS names ss a b) (T.drop (i + 1)) := by
  rw [drop_tk h, refS, hab]
theorem refS_stop {names ss T : List ByteArray} {i : Nat} (h : i < T.length → (cutT 61 (tkD T i)).length ≠ 2) : refS names ss (T.drop i) = (ss, T.drop i) := by
  by_cases hi : i < T.length
  · rw [drop_tk hi, refS]
    split
    · rename_i a b hab
      exact absurd (by rw [hab]; rfl) (h hi)
    · rfl
  · rw [List.drop_of_length_le (by omega), refS]
theorem refP_go {f : List ByteArray → IT × Nat} {l : List ByteArray} {n i : Nat} (h : i < l.length) (hc : tkD l i ≠ tClose) : refP f l (n + 1) i = ((f (l.drop (i + 1))).1 :: (refP f l n (i + 1 + (f (l.drop (i + 1))).2)).1, (refP f l n (i + 1 + (f (l.drop (i + 1))).2)).2) := by
  rw [refP, tkD_at h]
  dsimp only
  rw [if_neg hc]
theorem refP_stop {f : List ByteArray → IT × Nat} {l : List ByteArray} {n i : Nat} (h : i < l.length → tkD l i = tClose) : refP f l n i = ([], i) := by
  cases n with
  | zero => rw [refP]
  | succ n =>
    rw [refP]
    cases hl : l[i]? with
    | none => rfl
    | some t =>
      have h1 := (List.getElem?_eq_some_iff.1 hl).1
      have h2 := tkD_at h1
      rw [hl] at h2
      injection h2 with h2
      dsimp only
      rw [if_pos (h2.trans (h h1))]
def clD (l : List ClassV) (s : ByteArray) : ClassV := (clsOf l s).getD zC
theorem refI_end {l : List ClassV} {d i : Nat} {s : ByteArray} {r ss : List ByteArray} (h : refS ((clD l s).traits.map (·.name)) (List.replicate (clD l s).traits.length ⟨#[]⟩) r = (ss, (s :: r).drop i)) (h1 : 1 ≤ i) (hi : i ≤ (s :: r).length) (hn : i < (s :: r).length → tkD (s :: r) i ≠ tOpen) : refI l (d + 1) (s :: r) = (.mk s ss [], i) := by
  rw [List.length_cons] at hi
  have h2 : refS (((clsOf l s).getD zC).traits.map (·.name)) (List.replicate ((clsOf l s).getD zC).traits.length ⟨#[]⟩) r = (ss, (s :: r).drop i) := h
  rw [refI, h2]
  by_cases hi2 : i < (s :: r).length
  · rw [drop_tk hi2]
    dsimp only
    rw [if_neg (hn hi2), List.length_drop, List.length_cons]
    rw [List.length_cons] at hi2
    congr 1; omega
  · rw [List.drop_of_length_le (by omega)]
    rw [List.length_cons] at hi2
    dsimp only
    congr 1; omega
theorem refI_open {l : List ClassV} {d i : Nat} {s : ByteArray} {r ss : List ByteArray} (h : refS ((clD l s).traits.map (·.name)) (List.replicate (clD l s).traits.length ⟨#[]⟩) r = (ss, (s :: r).drop i)) (hi : i < (s :: r).length) (hn : tkD (s :: r) i = tOpen) : refI l (d + 1) (s :: r) = (.mk s ss (refP (refI l d) (s :: r) (r.length + 1) i).1, (refP (refI l d) (s :: r) (r.length + 1) i).2 + 1) := by
  have h2 : refS (((clsOf l s).getD zC).traits.map (·.name)) (List.replicate ((clsOf l s).getD zC).traits.length ⟨#[]⟩) r = (ss, (s :: r).drop i) := h
  rw [refI, h2, drop_tk hi]
  dsimp only
  rw [if_pos hn, List.length_drop]
  rw [List.length_cons] at hi ⊢
  rw [show r.length - (r.length + 1 - (i + 1)) = i by omega]
theorem tk_size {T : List ByteArray} (h : ∀ u ∈ T, u.size ≤ 65536) (i : Nat) : (tkD T i).size ≤ 65536 := by
  unfold tkD
  cases hi : T[i]? with
  | none => exact Nat.zero_le _
  | some u => exact h u (List.mem_of_getElem? hi)
theorem two_of {xs : List ByteArray} (h : ((xs.length : Int) == 2) = true) : ∃ a b, xs = [a, b] := by
  have h : (xs.length : Int) = 2 := by simpa using h
  match xs, h with
  | [a, b], _ => exact ⟨a, b, rfl⟩
  | [], h => simp at h
  | [_], h => simp at h
  | _ :: _ :: _ :: _, h => simp at h; omega
theorem setS_yes {names ss : List ByteArray} {a b : ByteArray} (h : 0 ≤ firstS a names 0) : setS names ss a b = ss.set (firstS a names 0).toNat b := by rw [setS, if_pos h]
theorem setS_no {names ss : List ByteArray} {a b : ByteArray} (h : ¬ 0 ≤ firstS a names 0) : setS names ss a b = ss := by rw [setS, if_neg h]
theorem setS_len (names ss : List ByteArray) (a b : ByteArray) : (setS names ss a b).length = ss.length := by
  unfold setS
  split
  · rw [List.length_set]
  · rfl
theorem setS_mem {names ss : List ByteArray} {a b : ByteArray} {N : Nat} (h : ∀ u ∈ ss, u.size ≤ N) (hb : b.size ≤ N) : ∀ u ∈ setS names ss a b, u.size ≤ N := by
  intro u hu
  unfold setS at hu
  split at hu
  · rcases List.mem_or_eq_of_mem_set hu with hu | rfl
    · exact h u hu
    · exact hb
  · exact h u hu
/-! the reference parses what the program parses -/
theorem ref_form {l : List ClassV} (hg : gramOk l = true) {s : ByteArray} {x : ItemV} (hx : x.pl = (refI l 3 (cutT 32 s)).1) (hno : ¬ (askIOk l [x] = true ∧ PrnT l x = s)) : ∀ y : ItemV, rdI (gramM l) 3 (splitT s) = some (y.pl, []) → itemOk l y = false := by
  intro y hy
  cases ho : itemOk l y with
  | false => rfl
  | true =>
    exfalso
    have hk : askIOk l [y] = true := by rw [ask_one, hg, ho]; rfl
    obtain ⟨hT, _⟩ := ask_T hk y (List.mem_cons_self ..)
    have hN := ask_N hk y (List.mem_cons_self ..)
    have ho2 := ho
    unfold itemOk at ho2
    obtain ⟨n, hn⟩ := Option.isSome_iff_exists.1 ho2
    have hd := val_dep y 1 (fits_val hg y 1 24 n hn)
    have h1 := rdI_tok _ _ _ _ _ hy
    rw [List.append_nil] at h1
    have h2 := tok_refI hg 3 y.pl [] hN hT (by omega) trivial
    rw [List.append_nil] at h2
    rw [cut_split, h1, h2] at hx
    have hx : x.pl = y.pl := hx
    have hox : itemOk l x = true := by
      unfold itemOk at ho ⊢
      rw [fitsI_pl _ x y 1 24 hx]; exact ho
    have hkx : askIOk l [x] = true := by rw [ask_one, hg, hox]; rfl
    refine hno ⟨hkx, ?_⟩
    have hp : PrnT l x = txtT (gramM l) x.pl := by rw [PrnT, hkx]; rfl
    rw [hp, hx, txtT, ← h1, jn_split]
theorem ref_ok {l : List ClassV} {s : ByteArray} {x : ItemV} (hk : askIOk l [x] = true) (hs : PrnT l x = s) : rdI (gramM l) 3 (splitT s) = some (x.pl, []) ∧ itemOk l x = true := by
  have hk2 := hk
  rw [ask_one, Bool.and_eq_true] at hk2
  have hp : PrnT l x = txtT (gramM l) x.pl := by rw [PrnT, hk]; rfl
  rw [← hs, hp]
  exact ⟨(rdI_txt hk2.1 hk2.2).2, hk2.2⟩
theorem prs_same {l : List ClassV} {s : ByteArray} {y z : ItemV} {E F : Int} (h1 : PrsR l s y E) (h2 : PrsR l s z F) : y.pl = z.pl ∧ E = F := by
  cases h1 with
  | gram a => cases h2 with
    | gram _ => exact ⟨rfl, rfl⟩
    | limit b _ => rw [a] at b; cases b
    | form b _ _ => rw [a] at b; cases b
    | ok b _ _ _ _ => rw [a] at b; cases b
  | limit a hs => cases h2 with
    | gram b => rw [a] at b; cases b
    | limit _ _ => exact ⟨rfl, rfl⟩
    | form _ b _ => omega
    | ok _ b _ _ _ => omega
  | form a hs hn => cases h2 with
    | gram b => rw [a] at b; cases b
    | limit _ b => omega
    | form _ _ _ => exact ⟨rfl, rfl⟩
    | ok _ _ _ hr ho => rw [hn z hr] at ho; cases ho
  | ok a hs _ hr ho => cases h2 with
    | gram b => rw [a] at b; cases b
    | limit _ b => omega
    | form _ _ hn => rw [hn y hr] at ho; cases ho
    | ok _ _ _ hr2 _ =>
      rw [hr] at hr2
      injection hr2 with hr2
      injection hr2 with hr2 _
      exact ⟨hr2, rfl⟩
theorem prs_dep {l : List ClassV} {s : ByteArray} {y : ItemV} {E : Int} (h : PrsR l s y E) : depT y.pl ≤ 4 := by
  cases h with
  | gram _ => decide
  | limit _ _ => decide
  | form _ _ _ => decide
  | ok a hs _ hr ho => exact ask_dep (by rw [ask_one, a, ho]; rfl)
end Go.Proofs.YtlfbghkcfmcnlaaGreatDoor
namespace Go.Sx
open Go.RowKit Go.ChangeShapes Go.WideShapes

theorem list1' {α : Type} {l : List α} (h : l.length = 1) : ∃ a, l = [a] := by
  match l, h with
  | [a], _ => exact ⟨a, rfl⟩
theorem list2' {α : Type} {l : List α} (h : l.length = 2) : ∃ a b, l = [a, b] := by
  match l, h with
  | [a, b], _ => exact ⟨a, b, rfl⟩
theorem list3' {α : Type} {l : List α} (h : l.length = 3) : ∃ a b c, l = [a, b, c] := by
  match l, h with
  | [a, b, c], _ => exact ⟨a, b, c, rfl⟩
theorem list4' {α : Type} {l : List α} (h : l.length = 4) : ∃ a b c d, l = [a, b, c, d] := by
  match l, h with
  | [a, b, c, d], _ => exact ⟨a, b, c, d, rfl⟩
theorem list5' {α : Type} {l : List α} (h : l.length = 5) : ∃ a b c d e, l = [a, b, c, d, e] := by
  match l, h with
  | [a, b, c, d, e], _ => exact ⟨a, b, c, d, e, rfl⟩
theorem list6' {α : Type} {l : List α} (h : l.length = 6) : ∃ a b c d e f, l = [a, b, c, d, e, f] := by
  match l, h with
  | [a, b, c, d, e, f], _ => exact ⟨a, b, c, d, e, f, rfl⟩
theorem list7' {α : Type} {l : List α} (h : l.length = 7) : ∃ a b c d e f g, l = [a, b, c, d, e, f, g] := by
  match l, h with
  | [a, b, c, d, e, f, g], _ => exact ⟨a, b, c, d, e, f, g, rfl⟩
theorem list8' {α : Type} {l : List α} (h : l.length = 8) : ∃ a b c d e f g i, l = [a, b, c, d, e, f, g, i] := by
  match l, h with
  | [a, b, c, d, e, f, g, i], _ => exact ⟨a, b, c, d, e, f, g, i, rfl⟩
theorem list9' {α : Type} {l : List α} (h : l.length = 9) : ∃ a b c d e f g i j, l = [a, b, c, d, e, f, g, i, j] := by
  match l, h with
  | [a, b, c, d, e, f, g, i, j], _ => exact ⟨a, b, c, d, e, f, g, i, j, rfl⟩
theorem list10' {α : Type} {l : List α} (h : l.length = 10) : ∃ a b c d e f g i j k, l = [a, b, c, d, e, f, g, i, j, k] := by
  match l, h with
  | [a, b, c, d, e, f, g, i, j, k], _ => exact ⟨a, b, c, d, e, f, g, i, j, k, rfl⟩

section
variable {H : Type} {enc0 : TypeId × Value → H} {P : Program} {w : World} {base : Nat} {spare : Nat → Bool} {held : Bool}
theorem okWide_array {t e : TypeId} {n : Nat} {r : Reach} {v : Value} (ht : P.underlying t = some (.array n e)) (h : Value.okWide P w r base t v) : ∃ cs, v = .agg cs ∧ cs.size = P.cellsOf t := by
  simp only [Value.okWide, ht] at h
  obtain ⟨cs, h1, h2, _⟩ := h
  exact ⟨cs, h1, h2⟩
theorem int_cells {t : TypeId} {fuel : Nat} {cs : List Value} {y : DataW H × List MemPlace} (ht : P.underlying t = some (.int .i64)) (h : DataW.trod enc0 P w base spare held fuel t cs = some y) : ∃ s : Int, cs = [.int .i64 s] ∧ -9223372036854775808 ≤ s ∧ s ≤ 9223372036854775807 := by
  obtain ⟨m, hm, _, hw⟩ := DataW.trod_int ht h
  refine ⟨m, hm, ?_⟩
  simp only [Lit.wf, Bool.and_eq_true, decide_eq_true_eq] at hw
  exact hw
theorem str_cells {t : TypeId} {fuel : Nat} {cs : List Value} {y : DataW H × List MemPlace} (ht : P.underlying t = some .string) (h : DataW.trod enc0 P w base spare held fuel t cs = some y) : ∃ s : ByteArray, cs = [.string s] ∧ s.size ≤ maxLen := by
  obtain ⟨m, hm, _, hw⟩ := DataW.trod_string ht h
  exact ⟨m, hm, hw⟩
theorem strTop {r : Reach} {b0 : Nat} {t : TypeId} {v : Value} {d : DataW H} {ps : List MemPlace} (ht : P.underlying t = some .string) (hval : Value.okWide P w r b0 t v) (hd : DataW.Trod enc0 P w base spare held t v d ps) : ∃ s : ByteArray, v = .string s ∧ s.size ≤ maxLen := by
  obtain ⟨s, rfl⟩ := Go.WideShapes.okWide_string ht hval
  obtain ⟨f, h⟩ := hd
  obtain ⟨s', e, hm⟩ := str_cells ht h
  have e1 : s = s' := by
    have e2 : [Value.string s] = [Value.string s'] := e
    injection e2 with e3
    injection e3
  exact ⟨s, rfl, e1 ▸ hm⟩
theorem bool_cells {t : TypeId} {fuel : Nat} {cs : List Value} {y : DataW H × List MemPlace} (ht : P.underlying t = some .bool) (h : DataW.trod enc0 P w base spare held fuel t cs = some y) : ∃ b : Bool, cs = [.bool b] := by
  obtain ⟨m, hm, _⟩ := DataW.trod_bool ht h
  exact ⟨m, hm⟩
/-- An array of ints. -/
theorem arr_cells {t e : TypeId} {n fuel : Nat} {cs : List Value} {y : DataW H × List MemPlace} (ht : P.underlying t = some (.array n e)) (he : P.underlying e = some (.int .i64)) (hce : P.cellsOf e = 1) (hc : P.cellsOf t = n)
    (h : DataW.trod enc0 P w base spare held fuel t cs = some y) : ∃ ns : List Int, ns.length = n ∧ cs = ns.map (Value.int .i64) := by
  obtain ⟨xs, m, _, _, hl, hxl, hf⟩ := DataW.trod_array ht h
  rw [hc] at hl
  have hcell : ∀ i, i < n → ∃ m : Int, cs[i]? = some (.int .i64 m) := by
    intro i hi
    have h1 := hf i hi
    rw [hce] at h1
    have hx : xs[i]? = some (xs[i]'(by omega)) := List.getElem?_eq_getElem (by omega)
    rw [hx] at h1
    obtain ⟨m, hm, _⟩ := DataW.trod_int he h1
    refine ⟨m, ?_⟩
    have h2 : ((cs.drop (i * 1)).take 1)[0]? = some (.int .i64 m) := by rw [hm]; rfl
    rw [List.getElem?_take_of_lt (by omega), List.getElem?_drop] at h2
    simpa using h2
  have key : ∀ (k : Nat) (cs : List Value), cs.length = k → (∀ i, i < k → ∃ m : Int, cs[i]? = some (.int .i64 m)) → ∃ ns : List Int, ns.length = k ∧ cs = ns.map (Value.int .i64) := by
    intro k
    induction k with
    | zero => intro cs hl _; exact ⟨[], rfl, List.eq_nil_of_length_eq_zero hl⟩
    | succ k ih =>
      intro cs hl hk
      cases cs with
      | nil => simp at hl
      | cons c cs =>
        obtain ⟨m, hm⟩ := hk 0 (by omega)
        obtain ⟨ns, h1, h2⟩ := ih cs (by simpa using hl) (fun i hi => by
          obtain ⟨m, hm⟩ := hk (i + 1) (by omega)
          exact ⟨m, by simpa using hm⟩)
        exact ⟨m :: ns, by simp [h1], by simp at hm; simp [hm, h2]⟩
  exact key n cs hl hcell
/-- How much memory a datum holds: no slice and no string of it holds more than can be. -/
def Wok {H : Type} (P : Program) (t : TypeId) (d : DataW H) : Prop := (d.weights P t).all (· ≤ reachBytes) = true
theorem wparam {ts : List TypeId} {ds : List (DataW H)} {j : Nat} {t : TypeId} {d : DataW H} (h : (DataW.weightsEach P ts ds).all (· ≤ reachBytes) = true) (ht : ts[j]? = some t) (hd : ds[j]? = some d) : Wok P t d :=
  List.all_eq_true.2 fun n hn => List.all_eq_true.1 h n (DataW.weights_mem_each ht hd n hn)
theorem wfield {t : TypeId} {fs : Array Field} {xs : List (DataW H × List MemPlace)} {i : Nat} {f : Field} {z : DataW H × List MemPlace} (ht : P.underlying t = some (.struct fs)) (hw : Wok P t (.agg (xs.map (·.1)))) (hi : fs[i]? = some f) (hx : xs[i]? = some z) : Wok P f.type z.1 := by
  refine List.all_eq_true.2 fun n hn => List.all_eq_true.1 hw n ?_
  have h1 := DataW.weights_mem_each (P := P) (ts := fs.toList.map (·.type)) (ds := xs.map (·.1)) (j := i) (t := f.type) (d := z.1) (by simp [hi]) (by simp [hx]) n hn
  simpa [DataW.weights, ht] using h1
theorem wslice {t e : TypeId} {fuel : Nat} {cs : List Value} {x : DataW H × List MemPlace} {B : Nat} (ht : P.underlying t = some (.slice e)) (hB : P.bytesOf e = B) (h : DataW.trod enc0 P w base spare held fuel t cs = some x) (hw : Wok P t x.1) {A : Option Addr} {n c : Nat} (hc : cs = [.slice A n c]) : n * B ≤ 140737488351232 := by
  subst hB
  rcases DataW.trod_slice ht h with ⟨hcs, _⟩ | ⟨a, len, cap, elems, rest, m, _, hcs, hx, _, _, _, hl, _⟩
  · rw [hc] at hcs; injection hcs with hcs; injection hcs with _ hn _; subst hn; simp
  · rw [hc] at hcs; injection hcs with hcs; injection hcs with _ hn _; subst hn
    rw [hx] at hw
    have h1 : (elems.length + rest.length) * P.bytesOf e ≤ reachBytes := by
      refine of_decide_eq_true (List.all_eq_true.1 hw _ ?_)
      simp [DataW.weights, ht]
    rw [← hl]
    have h2 : elems.length * P.bytesOf e ≤ (elems.length + rest.length) * P.bytesOf e := Nat.mul_le_mul_right _ (Nat.le_add_right _ _)
    exact Nat.le_trans h2 h1
end
end Go.Sx
