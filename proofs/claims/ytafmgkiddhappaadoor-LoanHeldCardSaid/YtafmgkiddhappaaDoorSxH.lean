/- More operations, results that lie in cells, the plan's rules in the forms that a program prints. Conditions: none; a library of lemmas. -/
import Derived.Test.YtafmgkiddhappaaDoorSxG
import Derived.Laws.ResultCell
namespace Go.Sx
open Go.RowKit

section
variable {C : Cx} {Q : Exit → Act → World → Prop} {L : Regs} {O S : List Fact} {ops : Array Oper} {rest : List Oper} {ty : TypeId} {pos : String} {aft : Array Edge}

/-- The first field lies where the struct lies. -/
theorem y_fa0 {dst : Option Tmp} {gu : Option (Nat × Bool)} {s f sz b k : Nat} {agg : Bool} {x : Operand} (h : FieldIs C.P s f 0 sz agg) (hx : val L x = some (.pointer (some ⟨b, k, none⟩))) : Yi C ⟨dst, .fieldAddr s x f, ty, pos, aft, gu⟩ L O S (.pointer (some ⟨b, k, none⟩)) := by
  have := y_fa (O := O) (S := S) (dst := dst) (ty := ty) (pos := pos) (aft := aft) (gu := gu) h hx
  simpa using this

/-! ### Calls of function values -/
theorem run_callV {a : Act} {x : Operand} {xs : List Operand} {vs : List Value} {ats : Array TypeId} {f : FuncId} {fi ca : Array Value} (hr : RegsOk C.N C.D L a) (hf : ∀ args w, (callFunc f args).run C.P w = .ok (.enter f args) w) (hx : val L x = some (.func (.func f) fi ca)) (hv : valsO L xs = some vs) (dst : Option Tmp) (gu : Option (Nat × Bool)) (w : World) :
    (execOp a.eval ⟨dst, .call ⟨.value x, xs.toArray, ats⟩, ty, pos, aft, gu⟩).run C.P w = .ok (.enter f (fi ++ vs.toArray ++ ca)) w := by
  have := valsO_eval hr xs vs hv
  simp [execOp, resolve, hr.val hx, Deferred.ofValue, invoke, hf, ← this]

theorem y_callV {dst : Option Tmp} {gu : Option (Nat × Bool)} {x : Operand} {xs : List Operand} {vs : List Value} {ats : Array TypeId} {f : FuncId} {fi ca : Array Value} {v : Value} (hf : ∀ args w, (callFunc f args).run C.P w = .ok (.enter f args) w) (hx : val L x = some (.func (.func f) fi ca)) (hv : valsO L xs = some vs)
    (hc : ∀ w, Hp C.F C.w0 O S w → Calls C.P f (fi ++ vs.toArray ++ ca) w (fun e w' => e = .returned v ∧ Grow w w')) : Yi C ⟨dst, .call ⟨.value x, xs.toArray, ats⟩, ty, pos, aft, gu⟩ L O S v :=
  ⟨(by intro c h; cases h), fun a w hr hp => by
    unfold YieldsV
    rw [run_callV hr hf hx hv]
    exact ⟨rfl, hc w hp⟩⟩

/-! ### Results in cells -/
theorem yi_loadVar {t : TypeId} {x : Operand} {a : Addr} {v : Value} {dst : Option Tmp} {gu : Option (Nat × Bool)} (hx : val L x = some (.pointer (some a))) (h : Yi C ⟨dst, .load t x, ty, pos, aft, gu⟩ L O S v) {ac : Act} {w : World} (hr : RegsOk C.N C.D L ac) (hp : Hp C.F C.w0 O S w) : (loadVar t a).run C.P w = .ok v w := by
  have := h.2 ac w hr hp
  unfold YieldsV at this
  simp only [execOp, hr.val hx, Instr.loadAt, Instr.sureAddr, Sem.run_bind, Sem.run_pure, Result.andThen_ok] at this
  generalize (loadVar t a).run C.P w = r at this
  cases r with
  | ok u w' =>
    simp only [Result.andThen_ok] at this
    obtain ⟨rfl, rfl⟩ := this
    rfl
  | halt _ _ => exact this.elim

theorem getQ_of_look {N : Nat} {D : List Deferred} {a : Act} (h : RegsOk N D L a) {t : Nat} {v : Value} (hk : look L t = some v) : a.tmps[t]?.getD undef = v := by rw [h.look t v hk]; rfl

theorem ej_retC1 {fn : Func} {R : Ending → World → Prop} {p : Tmp} {t : TypeId} {a : Addr} {v : Value} (hD : C.D = []) (h : fn.results = #[.cell p t]) (hx : val L (.tmp p) = some (.pointer (some a))) (hy : Yi C ⟨none, .load t (.tmp p), 0, "", #[], none⟩ L O S v) (hR : ∀ w, Hp C.F C.w0 O S w → R (.returned v) w) :
    EJ C (bodyPost C.P fn R) .ret L O S := fun ac w hr hp => ⟨hr.defers.trans hD, v, by
      have h1 := getQ_of_look hr hx
      simp [results, h, h1, asAddr, yi_loadVar hx hy hr hp], hR w hp⟩
theorem ej_retC2 {fn : Func} {R : Ending → World → Prop} {p u : Tmp} {t : TypeId} {a : Addr} {v x : Value} (hD : C.D = []) (h : fn.results = #[.cell p t, .tmp u]) (hx : val L (.tmp p) = some (.pointer (some a))) (hy : Yi C ⟨none, .load t (.tmp p), 0, "", #[], none⟩ L O S v) (hu : look L u = some x) (hR : ∀ w, Hp C.F C.w0 O S w → R (.returned (.tuple #[v, x])) w) :
    EJ C (bodyPost C.P fn R) .ret L O S := fun ac w hr hp => ⟨hr.defers.trans hD, _, by
      have h1 := getD_of_look hr hx
      rw [results_cell_tmp h, h1]
      simp [asAddr, yi_loadVar hx hy hr hp, getD_of_look hr hu], hR w hp⟩
theorem ej_retC4 {fn : Func} {R : Ending → World → Prop} {p u1 u2 u3 : Tmp} {t : TypeId} {a : Addr} {v x1 x2 x3 : Value} (hD : C.D = []) (h : fn.results = #[.cell p t, .tmp u1, .tmp u2, .tmp u3]) (hx : val L (.tmp p) = some (.pointer (some a))) (hy : Yi C ⟨none, .load t (.tmp p), 0, "", #[], none⟩ L O S v)
    (h1 : look L u1 = some x1) (h2 : look L u2 = some x2) (h3 : look L u3 = some x3) (hR : ∀ w, Hp C.F C.w0 O S w → R (.returned (.tuple #[v, x1, x2, x3])) w) :
    EJ C (bodyPost C.P fn R) .ret L O S := fun ac w hr hp => ⟨hr.defers.trans hD, _, by
      have h0 := getQ_of_look hr hx
      simp [results, h, h0, asAddr, yi_loadVar hx hy hr hp, getQ_of_look hr h1, getQ_of_look hr h2, getQ_of_look hr h3], hR w hp⟩
theorem ej_ret3 {fn : Func} {R : Ending → World → Prop} {t u s : Tmp} {v x y : Value} (hD : C.D = []) (h : fn.results = #[.tmp t, .tmp u, .tmp s]) (hv : look L t = some v) (hx : look L u = some x) (hy : look L s = some y) (hR : ∀ w, Hp C.F C.w0 O S w → R (.returned (.tuple #[v, x, y])) w) :
    EJ C (bodyPost C.P fn R) .ret L O S := fun a w hr hp => ⟨hr.defers.trans hD, .tuple #[v, x, y], by simp [results, h, getQ_of_look hr hv, getQ_of_look hr hx, getQ_of_look hr hy], hR w hp⟩

/-! ### Operations that write, under a guard that is known -/
theorem oj_yes {o : Oper} {j dj : Nat} {b : Bool} (ho : o.guard = some (j, b)) (hj : (ops[j]?).bind (·.dst) = some dj) (hl : look L dj = some (.bool b)) (k : OJ C ops Q (⟨o.dst, o.op, o.type, o.pos, o.after, none⟩ :: rest) L O S) : OJ C ops Q (o :: rest) L O S := by
  intro a w hr hp
  have h := k a w hr hp
  unfold wpListIn at h ⊢
  rw [if_pos (by simp [Region.wanted])] at h
  rw [if_pos (by rw [wanted_of hr ho hj hl]; simp)]
  exact h
theorem oj_no {o : Oper} {j dj d : Nat} {b g : Bool} (ho : o.guard = some (j, b)) (hj : (ops[j]?).bind (·.dst) = some dj) (hl : look L dj = some (.bool g)) (hne : (g == b) = false) (hd : o.dst = some d) (hdN : Nat.blt d C.N = true) (k : OJ C ops Q rest ((d, undef) :: L) O S) : OJ C ops Q (o :: rest) L O S := by
  intro a w hr hp
  have hdN' : d < C.N := by simpa [Nat.blt_eq] using hdN
  unfold wpListIn
  rw [if_neg (by rw [wanted_of hr ho hj hl, hne]; simp)]
  refine ⟨fun _ _ => trivial, ?_⟩
  rw [hd]
  exact k _ w (hr.put hdN' _) hp
end

/-! ### The plan's rules -/
section
variable {C : Cx} {Q : Exit → Act → World → Prop} {l : List Oper} {n : Nat} {his : List Nat} {pend : List Pend} {L : Regs} {O S : List Fact}

theorem steps_yi {o : Oper} {ops : Array Oper} {v : Value} (hy : Yi C o L O S v) (hg : o.guard = none) : Steps1 C ops O S o L v := fun a w hr hp => .inl ⟨by simp [Region.wanted, hg], hy.1, hy.2 a w hr hp⟩

theorem pl_y (i : Nat) {o : Oper} {d : Nat} {v : Value} (hi : l[i]? = some o) (hy : Yi C o L O S v) (hg : o.guard = none) (hd : o.dst = some d) (hdN : Nat.blt d C.N = true) (hn : his.contains i = false) (hs : seesOk l his i o = true)
    (k : Plan C l Q n (i :: his) (⟨i, o, L, v⟩ :: pend) ((d, v) :: L) O S) : Plan C l Q (n + 1) his pend L O S :=
  .inl ⟨i, o, d, v, hi, hd, by simpa [Nat.blt_eq] using hdN, by simpa using hn, hs, steps_yi hy hg, k⟩

/-- One operation that writes, whichever comes up. -/
def Fires (C : Cx) (l : List Oper) (Q : Exit → Act → World → Prop) (n : Nat) (his : List Nat) (pend : List Pend) (L : Regs) (O S : List Fact) (i : Nat) : Prop :=
  ∃ o, l[i]? = some o ∧ o.guard = none ∧ (∀ d, o.dst = some d → d < C.N) ∧ seesOk l his i o = true ∧
    OJ C l.toArray (NQ fun a' w' => ∃ L' O' S', RegsOk C.N C.D L' a' ∧ Hp C.F C.w0 O' S' w' ∧ Later C l pend o O' S' ∧ Plan C l Q n (i :: his) pend L' O' S') [o] L O S

theorem pl_w (is : List Nat) (i0 : Nat) (ho : openAt l his = is) (h0 : Nat.blt i0 l.length = true) (hn : his.contains i0 = false) (h : ∀ i ∈ is, Fires C l Q n his pend L O S i) : Plan C l Q (n + 1) his pend L O S :=
  .inr ⟨⟨i0, by simpa [Nat.blt_eq] using h0, by simpa using hn⟩, fun i hi => h i (by rw [← ho]; exact hi)⟩
theorem pl_w1 (i : Nat) (ho : openAt l his = [i]) (h0 : Nat.blt i l.length = true) (hn : his.contains i = false) (h : Fires C l Q n his pend L O S i) : Plan C l Q (n + 1) his pend L O S :=
  pl_w [i] i ho h0 hn (by simpa using h)
theorem pl_w2 (i j : Nat) (ho : openAt l his = [i, j]) (h0 : Nat.blt i l.length = true) (hn : his.contains i = false) (h : Fires C l Q n his pend L O S i) (h' : Fires C l Q n his pend L O S j) : Plan C l Q (n + 1) his pend L O S :=
  pl_w [i, j] i ho h0 hn (by simpa using ⟨h, h'⟩)
theorem pl_fire {i : Nat} {o : Oper} (hi : l[i]? = some o) (hg : o.guard = none) (hd : (match o.dst with | some d => Nat.blt d C.N | none => true) = true) (hs : seesOk l his i o = true)
    (h : OJ C l.toArray (NQ fun a' w' => ∃ L' O' S', RegsOk C.N C.D L' a' ∧ Hp C.F C.w0 O' S' w' ∧ Later C l pend o O' S' ∧ Plan C l Q n (i :: his) pend L' O' S') [o] L O S) : Fires C l Q n his pend L O S i :=
  ⟨o, hi, hg, fun d hd' => by rw [hd'] at hd; simpa [Nat.blt_eq] using hd, hs, h⟩
theorem ej_pl {n' : Nat} {his' : List Nat} {o : Oper} (hl : Later C l pend o O S) (k : Plan C l Q n' his' pend L O S) : EJ C (NQ fun a' w' => ∃ L' O' S', RegsOk C.N C.D L' a' ∧ Hp C.F C.w0 O' S' w' ∧ Later C l pend o O' S' ∧ Plan C l Q n' his' pend L' O' S') .normal L O S :=
  fun _ _ hr hp => ⟨L, O, S, hr, hp, hl, k⟩
theorem pl_end (h : (List.range l.length).all (his.contains ·) = true) (k : EJ C Q .normal L O S) : Plan C l Q 0 his pend L O S :=
  ⟨fun i hi => by simpa using List.all_eq_true.1 h i (List.mem_range.2 hi), k⟩
theorem lt_nil {o : Oper} : Later C l [] o O S := fun p hp => by cases hp
theorem lt_w {o : Oper} {p : Pend} (h : waits o p.i = true) (k : Later C l pend o O S) : Later C l (p :: pend) o O S := fun q hq => by
  rcases List.mem_cons.1 hq with e | e
  · subst e; exact .inl h
  · exact k q e
theorem lt_y {o o' : Oper} {i : Nat} {L' : Regs} {v : Value} (h : Yi C o' L' O S v) (hg : o'.guard = none) (k : Later C l pend o O S) : Later C l (⟨i, o', L', v⟩ :: pend) o O S := fun q hq => by
  rcases List.mem_cons.1 hq with e | e
  · subst e; exact .inr (steps_yi h hg)
  · exact k q e
end
end Go.Sx
