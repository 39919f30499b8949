/- Bits of numbers; calls that may panic; deferred calls that recover. Conditions: none; a library of lemmas. -/
import Derived.Test.YtafmgkiddhappaaDoorYSx1
import Derived.Test.YtafmgkiddhappaaDoorZSb
import Derived.Recover
namespace Go.Sx
open Go.RowKit

section
variable {C : Cx} {Q : Exit → Act → World → Prop} {L : Regs} {O S : List Fact} {ops : Array Oper} {rest : List Oper} {ty : TypeId} {pos : String} {aft : Array Edge} {dst : Option Tmp} {gu : Option (Nat × Bool)} {t t' : TypeId} {x y : Operand}
/-! ### Bits -/
theorem nat_bv (m : Nat) (hm : m ≤ 9223372036854775807) : (BitVec.ofInt 64 (m : Int)).toNat = m := by rw [BitVec.toNat_ofInt]; omega
theorem or_nat (m n : Nat) (hm : m < 2 ^ 62) (hn : n < 2 ^ 62) : IntKind.i64.wrap ((BitVec.ofInt 64 (m : Int) ||| BitVec.ofInt 64 (n : Int)).toNat : Int) = ((m ||| n : Nat) : Int) := by
  have h : (BitVec.ofInt 64 (m : Int) ||| BitVec.ofInt 64 (n : Int)).toNat = m ||| n := by
    rw [BitVec.toNat_or, nat_bv m (by omega), nat_bv n (by omega)]
  have hlt : m ||| n < 2 ^ 62 := Nat.or_lt_two_pow hm hn
  rw [h]; exact IntWalk.i64_in _ (by omega)
theorem y_orN {m n : Nat} (hx : val L x = some (.int .i64 (m : Nat))) (hy : val L y = some (.int .i64 (n : Nat))) (hm : m < 2 ^ 62) (hn : n < 2 ^ 62) : Yi C ⟨dst, .binOp .or t x y t', ty, pos, aft, gu⟩ L O S (.int .i64 ((m ||| n : Nat) : Int)) :=
  yi_val (by intro c h; cases h) fun a w hr _ => by
    have e : binOp .or t (.int .i64 (m : Int)) (.int .i64 (n : Int)) = pure (.int .i64 ((m ||| n : Nat) : Int)) := by
      unfold binOp
      simp only [ne_eq, not_true_eq_false, if_false]
      exact congrArg (fun z => (pure (Value.int .i64 z) : Sem Value)) (or_nat m n hm hn)
    simp [execOp, hr.val hx, hr.val hy, eqGuard, e]
theorem andNot_nat (m n : Nat) (hm : m ≤ 9223372036854775807) (hn : n ≤ 9223372036854775807) : IntKind.i64.wrap ((BitVec.ofInt 64 (m : Int) &&& ~~~(BitVec.ofInt 64 (n : Int))).toNat : Int) = ((m ^^^ (m &&& n) : Nat) : Int) := by
  have h : (BitVec.ofInt 64 (m : Int) &&& ~~~(BitVec.ofInt 64 (n : Int))).toNat = m ^^^ (m &&& n) := by
    refine Nat.eq_of_testBit_eq fun i => ?_
    rw [Nat.testBit_xor, Nat.testBit_and, BitVec.testBit_toNat, BitVec.getLsbD_and, BitVec.getLsbD_not]
    have h1 : (BitVec.ofInt 64 (m : Int)).getLsbD i = m.testBit i := by rw [← BitVec.testBit_toNat, nat_bv m hm]
    have h2 : (BitVec.ofInt 64 (n : Int)).getLsbD i = n.testBit i := by rw [← BitVec.testBit_toNat, nat_bv n hn]
    rw [h1, h2]
    by_cases hi : i < 64
    · rw [decide_eq_true hi]; cases m.testBit i <;> cases n.testBit i <;> rfl
    · have : m < 2 ^ i := Nat.lt_of_lt_of_le (show m < 2 ^ 64 by omega) (Nat.pow_le_pow_right (by decide) (by omega))
      rw [Nat.testBit_lt_two_pow this]; simp
  have hle : m ^^^ (m &&& n) ≤ m := by
    have hsub : (m ^^^ (m &&& n)) &&& m = m ^^^ (m &&& n) := Nat.eq_of_testBit_eq fun i => by
      rw [Nat.testBit_and, Nat.testBit_xor, Nat.testBit_and]; cases m.testBit i <;> cases n.testBit i <;> rfl
    rw [← hsub]; exact Nat.and_le_right
  rw [h]; exact IntWalk.i64_in _ (by omega)
theorem y_andNotN {m n : Nat} (hx : val L x = some (.int .i64 (m : Nat))) (hy : val L y = some (.int .i64 (n : Nat))) (hm : m ≤ 9223372036854775807) (hn : n ≤ 9223372036854775807) : Yi C ⟨dst, .binOp .andNot t x y t', ty, pos, aft, gu⟩ L O S (.int .i64 ((m ^^^ (m &&& n) : Nat) : Int)) :=
  yi_val (by intro c h; cases h) fun a w hr _ => by
    have e : binOp .andNot t (.int .i64 (m : Int)) (.int .i64 (n : Int)) = pure (.int .i64 ((m ^^^ (m &&& n) : Nat) : Int)) := by
      unfold binOp
      simp only [ne_eq, not_true_eq_false, if_false]
      exact congrArg (fun z => (pure (Value.int .i64 z) : Sem Value)) (andNot_nat m n hm hn)
    simp [execOp, hr.val hx, hr.val hy, eqGuard, e]
theorem y_shl1I {n : Int} (hx : val L x = some (.int .i64 1)) (hy : val L y = some (.int .i64 n)) (h0 : 0 ≤ n) (hn : n ≤ 62) : Yi C ⟨dst, .binOp .shl t x y t', ty, pos, aft, gu⟩ L O S (.int .i64 ((2 ^ n.toNat : Nat) : Int)) := by
  have h : val L y = some (.int .i64 (n.toNat : Nat)) := by rw [hy, Int.toNat_of_nonneg h0]
  exact y_shl1 hx h (by omega)
theorem y_orI {m n : Int} (hx : val L x = some (.int .i64 m)) (hy : val L y = some (.int .i64 n)) (hm : 0 ≤ m ∧ m < 4611686018427387904) (hn : 0 ≤ n ∧ n < 4611686018427387904) : Yi C ⟨dst, .binOp .or t x y t', ty, pos, aft, gu⟩ L O S (.int .i64 ((m.toNat ||| n.toNat : Nat) : Int)) := by
  have h1 : val L x = some (.int .i64 (m.toNat : Nat)) := by rw [hx, Int.toNat_of_nonneg hm.1]
  have h2 : val L y = some (.int .i64 (n.toNat : Nat)) := by rw [hy, Int.toNat_of_nonneg hn.1]
  exact y_orN h1 h2 (by omega) (by omega)
theorem y_shrI {m : Nat} {n : Int} (hx : val L x = some (.int .i64 (m : Nat))) (hy : val L y = some (.int .i64 n)) (h0 : 0 ≤ n) (hn : n ≤ 64) : Yi C ⟨dst, .binOp .shr t x y t', ty, pos, aft, gu⟩ L O S (.int .i64 ((m / 2 ^ n.toNat : Nat) : Int)) := by
  have h : val L y = some (.int .i64 (n.toNat : Nat)) := by rw [hy, Int.toNat_of_nonneg h0]
  exact y_shr hx h (by omega)
/-! ### Panics -/
theorem ej_then_pan {K : Act → World → Prop} {ch : List PanicEntry} (h : EJ C Q (.panic ch) L O S) : EJ C (Exit.then K Q) (.panic ch) L O S := h
theorem ej_blk_pan {id : Nat} {ch : List PanicEntry} (h : EJ C Q (.panic ch) L O S) : EJ C (Exit.inBlock id Q) (.panic ch) L O S := h
theorem ej_noGoto_pan {ch : List PanicEntry} (h : EJ C Q (.panic ch) L O S) : EJ C (Exit.noGoto Q) (.panic ch) L O S := h
/-- Out of a region that draws its order: what the temporaries hold is not known. -/
theorem ej_np_pan {K : Act → World → Prop} {ch : List PanicEntry} (h : EJ C Q (.panic ch) [] O S) : EJ C (NP C Q K) (.panic ch) L O S :=
  fun _ w _ hp a' hd hs => h a' w ⟨hd, hs, fun _ _ h => by cases h⟩ hp
theorem ej_pan {fn : Func} {R : Ending → World → Prop} {ch : List PanicEntry} (hD : C.D = []) (hR : ∀ w, Hp C.F C.w0 O S w → R (.panicked ch) w) : EJ C (bodyPost C.P fn R) (.panic ch) L O S :=
  fun _ w hr hp => ⟨hr.defers.trans hD, hR w hp⟩
theorem oj_panic {v : Value} {tt : TypeId} (hx : val L x = some (.iface tt v)) (k : EJ C Q (.panic [{ v := .iface tt v, recovered := false }]) L O S) : OJ C ops Q (⟨none, .panic x, ty, pos, aft, none⟩ :: rest) L O S := by
  intro a w hr hp
  unfold wpListIn
  rw [if_pos (by simp [Region.wanted])]
  refine ⟨fun _ _ => trivial, ?_⟩
  rw [Oper.semAt_eq _ _ _ (by intro c h; cases h)]
  have h : (execOp a.eval ⟨none, .panic x, ty, pos, aft, none⟩).run C.P w = .halt (.panic (.iface tt v)) w := by
    simp only [execOp, hr.val hx, Instr.panic, goPanic]; rfl
  rw [h]
  exact k a w hr hp
section
variable {xs : List Operand} {vs : List Value} {ats : Array TypeId} {f : FuncId}
/-- What a call that turns nothing comes to: a value, or a panic. -/
def endP (p : Bool) (v : Value) (ch : List PanicEntry) : Ending := bif p then .returned v else .panicked ch
theorem oj_callP {d : Nat} {p : Bool} {v : Value} {ch : List PanicEntry} (hf : ∀ args w, (callFunc f args).run C.P w = .ok (.enter f args) w) (hv : valsO L xs = some vs)
    (hc : ∀ w, Hp C.F C.w0 O S w → Calls C.P f vs.toArray w (fun e w' => e = endP p v ch ∧ Grow w w')) (hdN : Nat.blt d C.N = true)
    (k2 : p = false → EJ C Q (.panic ch) L O S) (k : p = true → OJ C ops Q rest ((d, v) :: L) O S) : OJ C ops Q (⟨some d, .call ⟨.value (.func f), xs.toArray, ats⟩, ty, pos, aft, none⟩ :: rest) L O S := by
  intro a w hr hp
  have hdN' : d < C.N := by simpa [Nat.blt_eq] using hdN
  unfold wpListIn
  rw [if_pos (by simp [Region.wanted])]
  refine ⟨fun _ _ => trivial, ?_⟩
  rw [Oper.semAt_eq _ _ _ (by intro c h; cases h), run_call hr hf hv]
  refine ⟨fun h => (by cases h), callsIn_FR.2 ((hc w hp).mono fun e w' hx => ?_)⟩
  obtain ⟨rfl, hg⟩ := hx
  cases p with
  | true => exact k rfl _ w' (hr.put hdN' _) (hp.grow hg)
  | false => exact k2 rfl _ w' hr (hp.grow hg)
/-- A call (of a function, or a function value) that turns several things, or panics. -/
theorem oj_callLP {X Y : Type} {x : Operand} {d : Nat} {fi ca : Array Value} (enc : X → Value) (pc : Y → List PanicEntry) (p : X → Prop) (q : Y → Prop) (Os : List Fact) (Ps : X → List Fact) (Pp : Y → List Fact) {R : List Fact} [ht : Takes O Os R]
    (hf : ∀ args w, (callFunc f args).run C.P w = .ok (.enter f args) w) (hx : val L x = some (.func (.func f) fi ca)) (hv : valsO L xs = some vs)
    (hc : ∀ w, Hp C.F C.w0 O S w → Calls C.P f (fi ++ vs.toArray ++ ca) w (fun e w' => (∃ z, p z ∧ e = .returned (enc z) ∧ Giv Os w w' (Ps z)) ∨ (∃ y, q y ∧ e = .panicked (pc y) ∧ Giv Os w w' (Pp y)))) (hdN : Nat.blt d C.N = true)
    (k2 : ∀ y, q y → EJ C Q (.panic (pc y)) L (Pp y ++ R) S) (k : ∀ z, p z → OJ C ops Q rest ((d, enc z) :: L) (Ps z ++ R) S) : OJ C ops Q (⟨some d, .call ⟨.value x, xs.toArray, ats⟩, ty, pos, aft, none⟩ :: rest) L O S := by
  intro a w hr hp
  have hdN' : d < C.N := by simpa [Nat.blt_eq] using hdN
  unfold wpListIn
  rw [if_pos (by simp [Region.wanted])]
  refine ⟨fun _ _ => trivial, ?_⟩
  rw [Oper.semAt_eq _ _ _ (by intro c h; cases h), run_callV hr hf hx hv]
  refine ⟨fun h => (by cases h), callsIn_FR.2 ((hc w hp).mono fun e w' hx => ?_)⟩
  rcases hx with ⟨z, hz, rfl, hg⟩ | ⟨y, hy, rfl, hg⟩
  · exact k z hz _ w' (hr.put hdN' _) (hp.takeGiv ht.perm hg)
  · exact k2 y hy _ w' hr (hp.takeGiv ht.perm hg)
end
theorem y_typeAssertT {tx ta : TypeId} {v : Value} {d : TypeDesc} (ht : C.P.underlying ta = some d) (hd : ∀ m, d ≠ .interface m) (hx : val L x = some (.iface ta v)) : Yi C ⟨dst, .typeAssert x tx ta true, ty, pos, aft, gu⟩ L O S (.tuple #[v, .bool true]) :=
  yi_val (by intro c h; cases h) fun a w hr _ => by
    simp only [execOp, hr.val hx, Instr.typeAssert, Sem.run_bind, run_underlying ht, Result.andThen_ok]
    cases d <;> first | exact absurd rfl (hd _) | simp
/-! ### Deferred calls that recover -/
theorem oj_defer {f : FuncId} {ca : Array Value} (hD : C.D = []) (hro : C.ro = none) (hx : val L x = some (.func (.func f) #[] ca)) (k : OJ { C with D := [⟨.fn (.func f) ca, #[]⟩] } ops Q rest L O S) :
    OJ C ops Q (⟨none, .defer ⟨.value x, #[], #[]⟩, ty, pos, aft, none⟩ :: rest) L O S := by
  intro a w hr hp
  unfold wpListIn
  rw [if_pos (by simp [Region.wanted])]
  refine ⟨fun _ _ => trivial, ?_⟩
  have h : (Oper.semAt (FR C.ro).round a.eval ⟨none, .defer ⟨.value x, #[], #[]⟩, ty, pos, aft, none⟩).run C.P w = .ok (.defer ⟨.fn (.func f) ca, #[]⟩) w := by
    rw [show (FR C.ro).round = none from hro, Oper.semAt_none]
    simp [execOp, resolve, hr.val hx, Deferred.ofValue]
  rw [h]
  refine k { a with defers := ⟨.fn (.func f) ca, #[]⟩ :: a.defers } w ⟨?_, hr.size, hr.look⟩ hp
  show _ :: a.defers = _
  rw [hr.defers, hD]
theorem enterD {P : Program} {f : FuncId} {fn : Func} {c : Code} {args : List Value} {w : World} {R : Ending → World → Prop} (F : Nat → Prop) (O S : List Fact)
    (hf : P.funcs[f]? = some fn) (hb : fn.body = some c) (hn : args.length ≤ fn.ntmps) (hp : Hp F w O S w)
    (h : CJ ⟨P, none, F, w, fn.ntmps, []⟩ c (bodyPostD P fn R) (regsOf 0 args) O S) : Calls P f args.toArray w R := by
  refine calls_of_wp_defers hf hb (wpIn_FR_none.1 (h _ w ⟨rfl, ?_, fun k v hk => ?_⟩ hp))
  · simp; omega
  · obtain ⟨_, h2⟩ := look_regsOf args 0 k v hk
    simp only [Nat.sub_zero] at h2
    have hk' : k < args.length := (List.getElem?_eq_some_iff.1 h2).1
    rw [Array.getElem?_append_left (by simpa using hk')]
    simpa using h2
theorem enterDO {P : Program} {f : FuncId} {fn : Func} {c : Code} {args : List Value} {w : World} {R : Ending → World → Prop} (Os S : List Fact)
    (hf : P.funcs[f]? = some fn) (hb : fn.body = some c) (hn : args.length ≤ fn.ntmps) (hO : ∀ f ∈ Os, f.P w ∧ ∀ b, f.fp b → b < w.heap.size) (hap : Os.Pairwise (fun f g => ∀ b, f.fp b → ¬ g.fp b))
    (hS : ∀ g ∈ S, g.P w ∧ ∀ i, g.fp i → i < w.heap.size ∧ ∀ f ∈ Os, ¬ f.fp i)
    (h : CJ ⟨P, none, FrO w Os, w, fn.ntmps, []⟩ c (bodyPostD P fn R) (regsOf 0 args) Os S) : Calls P f args.toArray w R :=
  enterD (FrO w Os) Os S hf hb hn ⟨rfl, rfl, rfl, Nat.le_refl _, fun _ hi => ⟨hi.1, rfl⟩, fun g hg => ⟨(hO g hg).1, fun b hb => ⟨(hO g hg).2 b hb, fun h => h.2 g hg hb⟩⟩, hap, fun g hg => ⟨(hS g hg).1, fun i hi => ((hS g hg).2 i hi).1, fun o ho i hi hio => ((hS g hg).2 i hi).2 o ho hio⟩⟩ h
/-- The function returns: the deferred call finds nothing to recover. -/
theorem ej_retD {fn : Func} {R : Ending → World → Prop} {g : FuncId} {ca : Array Value} (hD : C.D = [⟨.fn (.func g) ca, #[]⟩]) (hf : ∀ args w, (callFunc g args).run C.P w = .ok (.enter g args) w)
    (hc : ∀ w, Hp C.F C.w0 O S w → CallsD C.P g ca .returning w (fun e u' w' => (∃ v, e = .returned v) ∧ u' = .returning ∧ Grow w w'))
    (hres : ∀ a w, RegsOk C.N C.D L a → Hp C.F C.w0 O S w → ∃ v, (results fn a.tmps).run C.P w = .ok v w ∧ R (.returned v) w) : EJ C (bodyPostD C.P fn R) .ret L O S := fun a w hr hp => by
  show Leaves C.P fn a.tmps R a.defers .returning w
  rw [hr.defers, hD]
  refine ⟨by simp, _, _, g, ca, rfl, by simp [invoke, hf], ?_⟩
  intro c₀ cs hu
  obtain ⟨e, u', w', fr, ⟨⟨v, rfl⟩, rfl, hg⟩, h1, h2, h3⟩ := hc w hp c₀ cs hu
  exact ⟨_, _, w', fr, hres a w' hr (hp.grow hg), h1, h2, h3⟩
/-- It panics: the deferred call recovers, and turns what one block holds. -/
theorem ej_panD {fn : Func} {R : Ending → World → Prop} {g : FuncId} {ca : Array Value} {ch ch' : List PanicEntry} {b : Nat} {ob ob' : Obj} {O' : List Fact} (hD : C.D = [⟨.fn (.func g) ca, #[]⟩]) (hf : ∀ args w, (callFunc g args).run C.P w = .ok (.enter g args) w) (hs : settle (.panicking ch') = .returning)
    [hb : HasB O b ob] [hu : UpdB O b ob ob' O'] (hc : ∀ w, Hp C.F C.w0 O S w → CallsD C.P g ca (.panicking ch) w (fun e u' w' => (∃ v, e = .returned v) ∧ u' = .panicking ch' ∧ Mut (ownB b ob) w w' ∧ w'.heap[b]? = some ob'))
    (hres : ∀ a w, RegsOk C.N C.D L a → Hp C.F C.w0 O' S w → ∃ v, (results fn a.tmps).run C.P w = .ok v w ∧ R (.returned v) w) : EJ C (bodyPostD C.P fn R) (.panic ch) L O S := fun a w hr hp => by
  show Leaves C.P fn a.tmps R a.defers (.panicking ch) w
  rw [hr.defers, hD]
  refine ⟨by simp, _, _, g, ca, rfl, by simp [invoke, hf], ?_⟩
  intro c₀ cs hu0
  obtain ⟨e, u', w', fr, ⟨⟨v, rfl⟩, rfl, hm, hP⟩, h1, h2, h3⟩ := hc w hp c₀ cs hu0
  refine ⟨_, _, w', fr, ?_, h1, h2, h3⟩
  show Leaves C.P fn a.tmps R [] (settle (.panicking ch')) w'
  rw [hs]
  refine hres a w' hr (hp.write hu.rep hm.os hm.tape hm.output hm.size hm.same hP (fun c hc => ⟨?_, .inl hc⟩))
  have hc' : c = b := hc
  subst hc'
  exact Nat.lt_of_lt_of_le ((hp.own _ hb.mem).2 c rfl).1 hm.size
/-- Results in a temporary and a cell, or in two cells. -/
theorem res_TC {fn : Func} {p u : Tmp} {t : TypeId} {ad : Addr} {v z : Value} (h : fn.results = #[.tmp u, .cell p t]) (hx : val L (.tmp p) = some (.pointer (some ad))) (hy : Yi C ⟨none, .load t (.tmp p), 0, "", #[], none⟩ L O S v) (hu : look L u = some z) {a : Act} {w : World} (hr : RegsOk C.N C.D L a) (hp : Hp C.F C.w0 O S w) :
    (results fn a.tmps).run C.P w = .ok (.tuple #[z, v]) w := by
  have h1 := getQ_of_look hr hx
  have h2 := getQ_of_look hr hu
  simp [results, h, h1, h2, asAddr, yi_loadVar hx hy hr hp]
theorem res_CC {fn : Func} {p q : Tmp} {t u : TypeId} {ad bd : Addr} {v z : Value} (h : fn.results = #[.cell p t, .cell q u]) (hx : val L (.tmp p) = some (.pointer (some ad))) (hy : Yi C ⟨none, .load t (.tmp p), 0, "", #[], none⟩ L O S v)
    (hx2 : val L (.tmp q) = some (.pointer (some bd))) (hy2 : Yi C ⟨none, .load u (.tmp q), 0, "", #[], none⟩ L O S z) {a : Act} {w : World} (hr : RegsOk C.N C.D L a) (hp : Hp C.F C.w0 O S w) :
    (results fn a.tmps).run C.P w = .ok (.tuple #[v, z]) w := by
  have h1 := getQ_of_look hr hx
  have h2 := getQ_of_look hr hx2
  simp [results, h, h1, h2, asAddr, yi_loadVar hx hy hr hp, yi_loadVar hx2 hy2 hr hp]
/-- A deferred function that first asks what there is to recover. -/
theorem callsD_rec {P : Program} {f : FuncId} {fn : Func} {tl : Code} {args : List Value} {u u' : FrameMode} {w : World} {R : Ending → FrameMode → World → Prop} {id d d' : Nat} {o0 o1 : Oper} (v : Value) (F : Nat → Prop) (O S : List Fact)
    (hf : P.funcs[f]? = some fn) (hb : fn.body = some (.seq (.region id [o0, o1].toArray false) tl)) (hn : args.length ≤ fn.ntmps) (hd : d < fn.ntmps) (hd' : d' < fn.ntmps)
    (h0 : o0.op = .call ⟨.builtin .recover, #[], #[]⟩) (h0d : o0.dst = some d) (h0g : o0.guard = none) (h1 : o1.op = .assign (.tmp d)) (h1d : o1.dst = some d') (h1g : o1.guard = none)
    (hrec : ∀ (c₀ : Frame) (cs : List Frame), c₀.mode = u → (recoverD (c₀ :: cs) = some (v, { c₀ with mode := u' } :: cs)) ∨ (recoverD (c₀ :: cs) = none ∧ v = .nilIface ∧ u' = u))
    (hp : Hp F w O S w) (h : CJ ⟨P, none, F, w, fn.ntmps, []⟩ tl (bodyPost P fn (fun e w' => R e u' w')) ((d', v) :: (d, v) :: regsOf 0 args) O S) : CallsD P f args.toArray u w R := by
  refine callsD_of_wpS hf hb fun c₀ cs hu => wpS_seq (wpS_region ?_)
  have hr0 : RegsOk fn.ntmps [] (regsOf 0 args) { tmps := args.toArray ++ Array.replicate (fn.ntmps - args.toArray.size) undef, defers := [] } := by
    refine ⟨rfl, ?_, fun k v hk => ?_⟩
    · simp; omega
    · obtain ⟨_, h2⟩ := look_regsOf args 0 k v hk
      simp only [Nat.sub_zero] at h2
      have hk' : k < args.length := (List.getElem?_eq_some_iff.1 h2).1
      rw [Array.getElem?_append_left (by simpa using hk')]
      simpa using h2
  generalize ha : ({ tmps := args.toArray ++ Array.replicate (fn.ntmps - args.toArray.size) undef, defers := [] } : Act) = a at hr0
  have hk : ∀ cs', cs' = { c₀ with mode := u' } :: cs → tl.wpS P (bodyPostS P fn c₀ cs R) ((a.put (some d) v).put (some d') v) cs' w := by
    intro cs' hcs
    subst hcs
    refine wpS_of_wp (wp_mono (wpIn_FR_none.1 (h _ w ((hr0.put hd v).put hd' v) hp)) fun e a' w' hq => ?_)
    cases e with
    | normal => obtain ⟨h3, v', h4, h5⟩ := hq; exact ⟨h3, u', rfl, v', h4, h5⟩
    | ret => obtain ⟨h3, v', h4, h5⟩ := hq; exact ⟨h3, u', rfl, v', h4, h5⟩
    | panic ch => obtain ⟨h3, h4⟩ := hq; exact ⟨h3, u', rfl, h4⟩
    | outgrown => exact ⟨u', hq⟩
    | exit id => exact hq.elim
    | goto l => exact hq.elim
  have hw0 : Region.wanted o0 (yielded [o0, o1].toArray a.tmps) = true := by simp [Region.wanted, h0g]
  have hw1 : ∀ tm, Region.wanted o1 (yielded [o0, o1].toArray tm) = true := fun tm => by simp [Region.wanted, h1g]
  have he0 : (execOp a.eval o0).run P w = .ok .recover w := by simp [execOp, h0, resolve, invoke, builtin]
  have he1 : (execOp (a.put (some d) v).eval o1).run P w = .ok (.value v) w := by
    have h3 : (a.put (some d) v).eval (.tmp d) = v := by
      have := (hr0.put hd v).val (x := .tmp d) (v := v) (by simp [Sx.val, look])
      exact this
    simp [execOp, h1, h3]
  have hl : List.range [o0, o1].toArray.size = [0, 1] := rfl
  rw [hl]
  unfold wpOpsS
  rw [show ([o0, o1].toArray)[0]? = some o0 from rfl]
  dsimp only
  rw [if_pos hw0, he0]
  dsimp only
  rcases hrec c₀ cs hu with h3 | ⟨h3, rfl, rfl⟩
  · rw [h3]
    dsimp only
    unfold wpOpsS
    rw [show ([o0, o1].toArray)[1]? = some o1 from rfl]
    dsimp only
    rw [if_pos (hw1 _), h0d, he1]
    simp only [Oper.upon, wpOpsS, Exit.thenS, h1d]
    exact hk _ rfl
  · rw [h3]
    dsimp only
    unfold wpOpsS
    rw [show ([o0, o1].toArray)[1]? = some o1 from rfl]
    dsimp only
    rw [if_pos (hw1 _), h0d, he1]
    simp only [Oper.upon, wpOpsS, Exit.thenS, h1d]
    refine hk _ ?_
    rw [← hu]
/-- A panic that is on its way is recovered. -/
theorem rec_pan (v : Value) (c₀ : Frame) (cs : List Frame) (h : c₀.mode = .panicking [{ v, recovered := false }]) : recoverD (c₀ :: cs) = some (v, { c₀ with mode := .panicking [{ v, recovered := true }] } :: cs) := by
  simp only [recoverD, h]
theorem rec_ret (c₀ : Frame) (cs : List Frame) (h : c₀.mode = .returning) : recoverD (c₀ :: cs) = none := by simp only [recoverD, h]
end
end Go.Sx
