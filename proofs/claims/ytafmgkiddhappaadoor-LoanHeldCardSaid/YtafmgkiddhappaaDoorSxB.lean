/- The judgements of the small logic and its rules for control and for single operations. Conditions: none; a library of lemmas. -/
import Derived.Test.YtafmgkiddhappaaDoorSxA
namespace Go.Sx
open Go.RowKit

/-- What stays the same throughout one function's walk. -/
structure Cx where
  P : Program
  ro : Option Nat
  F : Nat → Prop
  w0 : World
  N : Nat
  D : List Deferred

def AJ (C : Cx) (K : Act → World → Prop) (L : Regs) (O S : List Fact) : Prop := ∀ a w, RegsOk C.N C.D L a → Hp C.F C.w0 O S w → K a w
def OJ (C : Cx) (ops : Array Oper) (Q : Exit → Act → World → Prop) (rest : List Oper) (L : Regs) (O S : List Fact) : Prop := AJ C (wpListIn (FR C.ro) 0 C.P ops Q rest) L O S
def CJ (C : Cx) (c : Code) (Q : Exit → Act → World → Prop) (L : Regs) (O S : List Fact) : Prop := AJ C (c.wpIn (FR C.ro) 0 C.P Q) L O S
def EJ (C : Cx) (Q : Exit → Act → World → Prop) (e : Exit) (L : Regs) (O S : List Fact) : Prop := AJ C (Q e) L O S
/-- What follows a piece of code, in the walk's own form. -/
abbrev Th (C : Cx) (y : Code) (Q : Exit → Act → World → Prop) : Exit → Act → World → Prop := Exit.then (y.wpIn (FR C.ro) 0 C.P Q) Q

variable {C : Cx} {Q : Exit → Act → World → Prop} {L L' : Regs} {O O' S S' : List Fact}

theorem aj_mono {K K' : Act → World → Prop} (h : AJ C K L O S) (hk : ∀ a w, K a w → K' a w) : AJ C K' L O S := fun a w hr hp => hk _ _ (h a w hr hp)
/-- Less is known from here on. -/
theorem aj_sub {K : Act → World → Prop} (h : AJ C K L' O' S') (hL : subR L L') (hO : O'.Sublist O) (hS : ∀ f ∈ S', f ∈ S) : AJ C K L O S :=
  fun a w hr hp => h a w (hr.subR hL) (hp.sub hO hS)
theorem aj_subL {K : Act → World → Prop} (L' : Regs) (h : AJ C K L' O S) (hL : subR L L') : AJ C K L O S := fun a w hr hp => h a w (hr.subR hL) hp

/-! ### Control -/
theorem cj_seq {x y : Code} (h : CJ C x (Th C y Q) L O S) : CJ C (.seq x y) Q L O S := fun a w hr hp => wpIn_seq (h a w hr hp)
theorem cj_skip (h : EJ C Q .normal L O S) : CJ C .skip Q L O S := fun a w hr hp => wpIn_skip (h a w hr hp)
theorem cj_label {l : Nat} (h : EJ C Q .normal L O S) : CJ C (.label l) Q L O S := fun a w hr hp => wpIn_label (h a w hr hp)
theorem cj_exit {id : Nat} (h : EJ C Q (.exit id) L O S) : CJ C (.exit id) Q L O S := fun a w hr hp => wpIn_exit (h a w hr hp)
theorem cj_ret (h : EJ C Q .ret L O S) : CJ C .ret Q L O S := fun a w hr hp => wpIn_ret (h a w hr hp)
theorem cj_block {id : Nat} {c : Code} (h : CJ C c (Exit.inBlock id Q) L O S) : CJ C (.block id c) Q L O S := fun a w hr hp => wpIn_block (h a w hr hp)
theorem cj_cond {c : Operand} {x y : Code} {t : Bool} (hc : val L c = some (.bool t)) (ht : t = true → CJ C x Q L O S) (hf : t = false → CJ C y Q L O S) : CJ C (.cond c x y) Q L O S :=
  fun a w hr hp => wpIn_cond_split (hr.val hc) (fun h => ht h a w hr hp) (fun h => hf h a w hr hp)

theorem ej_th {y : Code} (h : CJ C y Q L O S) : EJ C (Th C y Q) .normal L O S := h
theorem ej_then {K : Act → World → Prop} (h : AJ C K L O S) : EJ C (Exit.then K Q) .normal L O S := h
theorem ej_then_exit {K : Act → World → Prop} {id : Nat} (h : EJ C Q (.exit id) L O S) : EJ C (Exit.then K Q) (.exit id) L O S := h
theorem ej_then_ret {K : Act → World → Prop} (h : EJ C Q .ret L O S) : EJ C (Exit.then K Q) .ret L O S := h
theorem ej_blk {id : Nat} (h : EJ C Q .normal L O S) : EJ C (Exit.inBlock id Q) .normal L O S := h
theorem ej_blk_ret {id : Nat} (h : EJ C Q .ret L O S) : EJ C (Exit.inBlock id Q) .ret L O S := h
theorem ej_blk_hit {id : Nat} (h : EJ C Q .normal L O S) : EJ C (Exit.inBlock id Q) (.exit id) L O S := fun a w hr hp => by
  show if id = id then _ else _
  rw [if_pos rfl]; exact h a w hr hp
theorem ej_blk_pass {id id' : Nat} (hne : Nat.beq id' id = false) (h : EJ C Q (.exit id') L O S) : EJ C (Exit.inBlock id Q) (.exit id') L O S := fun a w hr hp => by
  show if id' = id then _ else _
  rw [if_neg (fun e => by subst e; simp at hne)]; exact h a w hr hp
theorem ej_noGoto (h : EJ C Q .normal L O S) : EJ C (Exit.noGoto Q) .normal L O S := h
theorem ej_noGoto_exit {id : Nat} (h : EJ C Q (.exit id) L O S) : EJ C (Exit.noGoto Q) (.exit id) L O S := h
theorem ej_noGoto_ret (h : EJ C Q .ret L O S) : EJ C (Exit.noGoto Q) .ret L O S := h

theorem cj_region {id : Nat} {l : List Oper} (h : OJ C l.toArray Q l L O S) : CJ C (.region id l.toArray false) Q L O S := fun a w hr hp => wpIn_region_lit (h a w hr hp)
theorem oj_nil {ops : Array Oper} (h : EJ C Q .normal L O S) : OJ C ops Q [] L O S := h

/-- A loop: a family of states 'x : X', each known by 'Lx x', 'Ox x', 'Sx x' and 'inv x'; a measure. -/
def LoopI (C : Cx) {X : Type} (inv : X → Prop) (Lx : X → Regs) (Ox Sx : X → List Fact) (x : X) (a : Act) (w : World) : Prop := inv x ∧ RegsOk C.N C.D (Lx x) a ∧ Hp C.F C.w0 (Ox x) (Sx x) w

theorem cj_loop {c : Code} {X : Type} (inv : X → Prop) (Lx : X → Regs) (Ox Sx : X → List Fact) (μ : X → Nat) (x0 : X) (h0 : inv x0) (hL : subR L (Lx x0)) (hO : (Ox x0).Sublist O) (hS : ∀ f ∈ Sx x0, f ∈ S)
    (round : ∀ x, inv x → CJ C c (Exit.then (fun a w => ∃ x', μ x' < μ x ∧ LoopI C inv Lx Ox Sx x' a w) Q) (Lx x) (Ox x) (Sx x)) : CJ C (.loop c) Q L O S := by
  intro a w hr hp b k cs hro hb hroom
  have key : ∀ n x a w, μ x = n → LoopI C inv Lx Ox Sx x a w →
      ∃ e a' w', Q e a' w' ∧ ArrivesIn (Machine.fenced C.P (FR C.ro)) C.P (lone (b.atR a (.code c :: .inLoop c :: k)) cs w) b k cs e a' w' := by
    intro n
    induction n using Nat.strongRecOn with
    | _ n ih =>
      intro x a w hn hI
      obtain ⟨e, a₁, w₁, hq, harr⟩ := round x hI.1 a w hI.2.1 hI.2.2 b (.inLoop c :: k) cs hro hb hroom
      cases e with
      | normal =>
        obtain ⟨x', hlt, hI'⟩ := hq
        obtain ⟨e₂, a₂, w₂, hq₂, harr₂⟩ := ih (μ x') (hn ▸ hlt) x' a₁ w₁ rfl hI'
        exact ⟨e₂, a₂, w₂, hq₂, .of_steps (StepsIn.trans harr (.one (fenced_calm hb hroom rfl) stepR_inLoop)) harr₂⟩
      | exit id => exact ⟨_, a₁, w₁, hq, .pass (x := .inLoop c) rfl (fun _ _ => .inl (by simp)) harr⟩
      | goto l => exact ⟨_, a₁, w₁, hq, .pass (x := .inLoop c) rfl (fun _ _ => .inl (by simp)) harr⟩
      | ret => exact ⟨_, a₁, w₁, hq, .pass (x := .inLoop c) rfl (fun _ _ => .inl (by simp)) harr⟩
      | panic ch => exact ⟨_, a₁, w₁, hq, .pass (x := .inLoop c) rfl (fun _ _ => .inl (by simp)) harr⟩
      | outgrown => exact ⟨_, a₁, w₁, hq, .pass (x := .inLoop c) rfl (fun _ _ => .inl (by simp)) harr⟩
  obtain ⟨e, a', w', hq, harr⟩ := key _ x0 a w rfl ⟨h0, hr.subR hL, hp.sub hO hS⟩
  exact ⟨e, a', w', hq, .of_steps (.one (fenced_calm hb hroom rfl) stepR_loop) harr⟩

/-- The end of a round. -/
theorem ej_next {X : Type} {inv : X → Prop} {Lx : X → Regs} {Ox Sx : X → List Fact} {μ : X → Nat} {m : Nat} (x' : X) (hm : μ x' < m) (hi : inv x') (hL : subR L (Lx x')) (hO : (Ox x').Sublist O) (hS : ∀ f ∈ Sx x', f ∈ S) :
    EJ C (Exit.then (fun a w => ∃ x', μ x' < m ∧ LoopI C inv Lx Ox Sx x' a w) Q) .normal L O S :=
  fun _ _ hr hp => ⟨x', hm, hi, hr.subR hL, hp.sub hO hS⟩

/-- A cut: what follows a piece of code is walked once, from a family of states that all ways out of the piece come to. -/
theorem cj_cut {x y : Code} {X : Type} (inv : X → Prop) (Lx : X → Regs) (Ox Sx : X → List Fact)
    (h1 : CJ C x (Exit.then (fun a w => ∃ x, LoopI C inv Lx Ox Sx x a w) Q) L O S) (h2 : ∀ x, inv x → CJ C y Q (Lx x) (Ox x) (Sx x)) : CJ C (.seq x y) Q L O S := by
  refine fun a w hr hp => wpIn_seq (wpIn_mono (h1 a w hr hp) fun e a w hq => ?_)
  cases e with
  | normal => obtain ⟨x, hi, hL, hH⟩ := hq; exact h2 x hi a w hL hH
  | _ => exact hq
theorem ej_cut {X : Type} {inv : X → Prop} {Lx : X → Regs} {Ox Sx : X → List Fact} (x' : X) (hi : inv x') (hL : subR L (Lx x')) (hO : (Ox x').Sublist O) (hS : ∀ f ∈ Sx x', f ∈ S) :
    EJ C (Exit.then (fun a w => ∃ x, LoopI C inv Lx Ox Sx x a w) Q) .normal L O S :=
  fun _ _ hr hp => ⟨x', hi, hr.subR hL, hp.sub hO hS⟩

/-! ### A function's beginning and end -/
def regsOf : Nat → List Value → Regs
  | _, [] => []
  | n, v :: r => (n, v) :: regsOf (n + 1) r

theorem look_regsOf (l : List Value) : ∀ n k v, look (regsOf n l) k = some v → n ≤ k ∧ l[k - n]? = some v := by
  induction l with
  | nil => intro n k v h; cases h
  | cons x r ih =>
    intro n k v h
    rw [regsOf, look_cons] at h
    by_cases e : n = k
    · subst e; rw [if_pos rfl] at h; simp at h; exact ⟨Nat.le_refl _, by simp [h]⟩
    · rw [if_neg e] at h
      obtain ⟨h1, h2⟩ := ih (n + 1) k v h
      refine ⟨by omega, ?_⟩
      have : k - n = (k - (n + 1)) + 1 := by omega
      rw [this]; simpa using h2

theorem enter {P : Program} {f : FuncId} {fn : Func} {c : Code} {args : List Value} {w : World} {R : Ending → World → Prop} (F : Nat → Prop) (O S : List Fact)
    (hf : P.funcs[f]? = some fn) (hb : fn.body = some c) (hn : args.length ≤ fn.ntmps) (hp : Hp F w O S w)
    (h : CJ ⟨P, none, F, w, fn.ntmps, []⟩ c (bodyPost P fn R) (regsOf 0 args) O S) : Calls P f args.toArray w R := by
  refine calls_of_wp hf hb (wpIn_FR_none.1 (h _ w ⟨rfl, ?_, fun k v hk => ?_⟩ hp))
  · simp; omega
  · obtain ⟨_, h2⟩ := look_regsOf args 0 k v hk
    simp only [Nat.sub_zero] at h2
    have hk' : k < args.length := (List.getElem?_eq_some_iff.1 h2).1
    rw [Array.getElem?_append_left (by simpa using hk')]
    simpa using h2

/-- A pure function: nothing that was there turns. -/
theorem enter_pure {P : Program} {f : FuncId} {fn : Func} {c : Code} {args : List Value} {w : World} {R : Ending → World → Prop} (S : List Fact)
    (hf : P.funcs[f]? = some fn) (hb : fn.body = some c) (hn : args.length ≤ fn.ntmps) (hS : ∀ g ∈ S, g.P w ∧ ∀ b, g.fp b → b < w.heap.size)
    (h : CJ ⟨P, none, fun b => b < w.heap.size, w, fn.ntmps, []⟩ c (bodyPost P fn R) (regsOf 0 args) [] S) : Calls P f args.toArray w R := by
  refine enter (fun b => b < w.heap.size) [] S hf hb hn ?_ h
  exact ⟨rfl, rfl, rfl, Nat.le_refl _, fun b hb => ⟨hb, rfl⟩, by simp, by simp, fun g hg => ⟨(hS g hg).1, (hS g hg).2, by simp⟩⟩

theorem getD_of_look {N : Nat} {D : List Deferred} {a : Act} (h : RegsOk N D L a) {t : Nat} {v : Value} (hk : look L t = some v) : a.tmps.getD t undef = v := by
  simp [Array.getD_eq_getD_getElem?, h.look t v hk]

theorem ej_ret1 {fn : Func} {R : Ending → World → Prop} {t : Tmp} {v : Value} (hD : C.D = []) (h : fn.results = #[.tmp t]) (hv : look L t = some v) (hR : ∀ w, Hp C.F C.w0 O S w → R (.returned v) w) :
    EJ C (bodyPost C.P fn R) .ret L O S := fun a w hr hp => ⟨hr.defers.trans hD, v, by rw [results_tmp h, getD_of_look hr hv], hR w hp⟩
theorem ej_ret2 {fn : Func} {R : Ending → World → Prop} {t u : Tmp} {v x : Value} (hD : C.D = []) (h : fn.results = #[.tmp t, .tmp u]) (hv : look L t = some v) (hx : look L u = some x) (hR : ∀ w, Hp C.F C.w0 O S w → R (.returned (.tuple #[v, x])) w) :
    EJ C (bodyPost C.P fn R) .ret L O S := fun a w hr hp => ⟨hr.defers.trans hD, .tuple #[v, x], by rw [results_tmp2 h, getD_of_look hr hv, getD_of_look hr hx], hR w hp⟩
theorem ej_ret0 {fn : Func} {R : Ending → World → Prop} (hD : C.D = []) (h : fn.results = #[]) (hR : ∀ w, Hp C.F C.w0 O S w → R (.returned (.tuple #[])) w) :
    EJ C (bodyPost C.P fn R) .ret L O S := fun _ w hr hp => ⟨hr.defers.trans hD, .tuple #[], results_none h _ _ _, hR w hp⟩
theorem ej_end0 {fn : Func} {R : Ending → World → Prop} (hD : C.D = []) (h : fn.results = #[]) (hR : ∀ w, Hp C.F C.w0 O S w → R (.returned (.tuple #[])) w) :
    EJ C (bodyPost C.P fn R) .normal L O S := fun _ w hr hp => ⟨hr.defers.trans hD, .tuple #[], results_none h _ _ _, hR w hp⟩

/-! ### Single operations -/
/-- The operation yields v, and nothing that is known of memory is lost. -/
def YieldsV (C : Cx) (o : Oper) (a : Act) (w : World) (v : Value) : Prop :=
  match (execOp a.eval o).run C.P w with
  | .ok (.value u) w' => w' = w ∧ u = v
  | .ok .skip w' => w' = w ∧ v = undef
  | .ok (.enter f args) w' => w' = w ∧ Calls C.P f args w (fun e w'' => e = .returned v ∧ Grow w w'')
  | _ => False

def Yi (C : Cx) (o : Oper) (L : Regs) (O S : List Fact) (v : Value) : Prop :=
  (∀ c, o.op ≠ .defer c) ∧ ∀ a w, RegsOk C.N C.D L a → Hp C.F C.w0 O S w → YieldsV C o a w v

theorem uponIn_of_yields {o : Oper} {a : Act} {w : World} {v : Value} {next : Act → World → Prop} (hd : ∀ c, o.op ≠ .defer c) (h : YieldsV C o a w v) (hk : ∀ w', Grow w w' → next (a.put o.dst v) w') :
    o.wpIn (FR C.ro) 0 C.P a w next Q := by
  unfold YieldsV at h
  refine ⟨fun _ _ => trivial, ?_⟩
  have hs : o.semAt (FR C.ro).round a.eval = execOp a.eval o := Oper.semAt_eq _ _ _ hd
  rw [hs]
  generalize (execOp a.eval o).run C.P w = r at h
  cases r with
  | ok n w' =>
    cases n <;> simp only at h
    case value u => obtain ⟨rfl, rfl⟩ := h; exact hk _ (Below.refl _ _)
    case skip => obtain ⟨rfl, rfl⟩ := h; exact hk _ (Below.refl _ _)
    case enter f args =>
      obtain ⟨rfl, hc⟩ := h
      refine ⟨(fun h => by cases h), callsIn_FR.2 (hc.mono fun e w'' ⟨he, hg⟩ => ?_)⟩
      subst he
      exact hk _ hg
  | halt x w' => exact h.elim

theorem oj_step {ops : Array Oper} {o : Oper} {rest : List Oper} {v : Value} (hy : Yi C o L O S v) (hg : o.guard = none) {d : Nat} (hd : o.dst = some d) (hdN : Nat.blt d C.N = true) (k : OJ C ops Q rest ((d, v) :: L) O S) : OJ C ops Q (o :: rest) L O S := by
  intro a w hr hp
  have hdN' : d < C.N := by simpa [Nat.blt_eq] using hdN
  unfold wpListIn
  rw [if_pos (by simp [Region.wanted, hg])]
  refine uponIn_of_yields hy.1 (hy.2 a w hr hp) fun w' hg => ?_
  rw [hd]
  exact k _ w' (hr.put hdN' v) (hp.grow hg)

/-- An operation whose result goes nowhere. -/
theorem oj_step0 {ops : Array Oper} {o : Oper} {rest : List Oper} {v : Value} (hy : Yi C o L O S v) (hg : o.guard = none) (hd : o.dst = none) (k : OJ C ops Q rest L O S) : OJ C ops Q (o :: rest) L O S := by
  intro a w hr hp
  unfold wpListIn
  rw [if_pos (by simp [Region.wanted, hg])]
  refine uponIn_of_yields hy.1 (hy.2 a w hr hp) fun w' hg => ?_
  rw [hd]
  exact k _ w' hr (hp.grow hg)

/-! ### Guarded operations: a run of them with one guard, whose last result alone is used -/
/-- The value of an operation under a guard: 'v' if the guard's number is as wanted. -/
def gd (g b : Bool) (v : Value) : Value := bif g == b then v else undef

/-- Each operation of the run is carried out, each under the guard (j, b) or under one of the run's own operations, and yields what is known; what they come to: 'K'. -/
def GJ (C : Cx) (ops : Array Oper) (O S : List Fact) : List Oper → Regs → (Regs → Prop) → Prop
  | [], L, K => K L
  | o :: rest, L, K => ∃ v d, o.dst = some d ∧ Nat.blt d C.N = true ∧
      (∀ a w, RegsOk C.N C.D L a → Hp C.F C.w0 O S w → (Region.wanted o (yielded ops a.tmps) = true ∧ (∀ c, o.op ≠ .defer c) ∧ YieldsV C o a w v) ∨ (Region.wanted o (yielded ops a.tmps) = false ∧ v = undef)) ∧
      GJ C ops O S rest ((d, v) :: L) K

theorem oj_of_gj {ops : Array Oper} (rest : List Oper) : ∀ (blk : List Oper) (L : Regs), GJ C ops O S blk L (fun L' => OJ C ops Q rest L' O S) → OJ C ops Q (blk ++ rest) L O S
  | [], L, h => h
  | o :: blk, L, h => by
    obtain ⟨v, d, hd, hdN, hs, hk⟩ := h
    intro a w hr hp
    have hdN' : d < C.N := by simpa [Nat.blt_eq] using hdN
    show wpListIn _ _ _ _ _ (o :: (blk ++ rest)) a w
    unfold wpListIn
    rcases hs a w hr hp with ⟨hw, hnd, hy⟩ | ⟨hw, rfl⟩
    · rw [if_pos hw]
      refine uponIn_of_yields hnd hy fun w' hg => ?_
      rw [hd]
      exact oj_of_gj rest blk _ hk _ w' (hr.put hdN' v) (hp.grow hg)
    · rw [if_neg (by rw [hw]; simp)]
      refine ⟨fun _ _ => trivial, ?_⟩
      rw [hd]
      exact oj_of_gj rest blk _ hk _ w (hr.put hdN' _) hp

theorem gj_mono {ops : Array Oper} {K K' : Regs → Prop} (hK : ∀ L, K L → K' L) : ∀ (blk : List Oper) (L : Regs), GJ C ops O S blk L K → GJ C ops O S blk L K'
  | [], _, h => hK _ h
  | _ :: blk, _, ⟨v, d, hd, hdN, hs, hk⟩ => ⟨v, d, hd, hdN, hs, gj_mono hK blk _ hk⟩

theorem gj_append {ops : Array Oper} {K : Regs → Prop} (rest : List Oper) : ∀ (blk : List Oper) (L : Regs), GJ C ops O S blk L (fun L' => GJ C ops O S rest L' K) → GJ C ops O S (blk ++ rest) L K
  | [], _, h => h
  | _ :: blk, _, ⟨v, d, hd, hdN, hs, hk⟩ => ⟨v, d, hd, hdN, hs, gj_append rest blk _ hk⟩

theorem gj_nil {ops : Array Oper} {K : Regs → Prop} (h : K L) : GJ C ops O S [] L K := h

theorem gj_step {ops : Array Oper} {o : Oper} {rest : List Oper} {K : Regs → Prop} {v : Value} (hy : Yi C o L O S v) (hg : o.guard = none) {d : Nat} (hd : o.dst = some d) (hdN : Nat.blt d C.N = true) (k : GJ C ops O S rest ((d, v) :: L) K) : GJ C ops O S (o :: rest) L K :=
  ⟨v, d, hd, hdN, fun a w hr hp => .inl ⟨by simp [Region.wanted, hg], hy.1, hy.2 a w hr hp⟩, k⟩

theorem wanted_of {ops : Array Oper} {o : Oper} {a : Act} {j dj : Nat} {b g : Bool} (hr : RegsOk C.N C.D L a) (ho : o.guard = some (j, b)) (hj : (ops[j]?).bind (·.dst) = some dj) (hl : look L dj = some (.bool g)) :
    Region.wanted o (yielded ops a.tmps) = (g == b) := by
  have := hr.look dj _ hl
  simp [Region.wanted, ho, yielded, hj, this]
theorem wanted_undef {ops : Array Oper} {o : Oper} {a : Act} {j dj : Nat} {b : Bool} (hr : RegsOk C.N C.D L a) (ho : o.guard = some (j, b)) (hj : (ops[j]?).bind (·.dst) = some dj) (hl : look L dj = some undef) :
    Region.wanted o (yielded ops a.tmps) = false := by
  have := hr.look dj _ hl
  simp [Region.wanted, ho, yielded, hj, this, undef]

/-- Under a guard that says yes. -/
theorem gj_yes {ops : Array Oper} {o : Oper} {rest : List Oper} {K : Regs → Prop} {v : Value} {j dj : Nat} {b : Bool} (ho : o.guard = some (j, b)) (hj : (ops[j]?).bind (·.dst) = some dj) (hl : look L dj = some (.bool b))
    (hy : Yi C o L O S v) {d : Nat} (hd : o.dst = some d) (hdN : Nat.blt d C.N = true) (k : GJ C ops O S rest ((d, v) :: L) K) : GJ C ops O S (o :: rest) L K :=
  ⟨v, d, hd, hdN, fun a w hr hp => .inl ⟨by rw [wanted_of hr ho hj hl]; simp, hy.1, hy.2 a w hr hp⟩, k⟩
/-- Under a guard that says no. -/
theorem gj_no {ops : Array Oper} {o : Oper} {rest : List Oper} {K : Regs → Prop} {j dj : Nat} {b g : Bool} (ho : o.guard = some (j, b)) (hj : (ops[j]?).bind (·.dst) = some dj) (hl : look L dj = some (.bool g)) (hne : (g == b) = false)
    {d : Nat} (hd : o.dst = some d) (hdN : Nat.blt d C.N = true) (k : GJ C ops O S rest ((d, undef) :: L) K) : GJ C ops O S (o :: rest) L K :=
  ⟨undef, d, hd, hdN, fun _ _ hr _ => .inr ⟨by rw [wanted_of hr ho hj hl]; exact hne, rfl⟩, k⟩
/-- Under a guard that was itself passed over. -/
theorem gj_undef {ops : Array Oper} {o : Oper} {rest : List Oper} {K : Regs → Prop} {j dj : Nat} {b : Bool} (ho : o.guard = some (j, b)) (hj : (ops[j]?).bind (·.dst) = some dj) (hl : look L dj = some undef)
    {d : Nat} (hd : o.dst = some d) (hdN : Nat.blt d C.N = true) (k : GJ C ops O S rest ((d, undef) :: L) K) : GJ C ops O S (o :: rest) L K :=
  ⟨undef, d, hd, hdN, fun _ _ hr _ => .inr ⟨wanted_undef hr ho hj hl, rfl⟩, k⟩

/-- A run of operations all of which are passed over: by the guard (j, b), whose slot dj holds 'g', or by a guard within the run, whose slot holds nothing. -/
def skips (ops : Array Oper) (N dj : Nat) (b : Bool) : List Oper → List Nat → Bool
  | [], _ => true
  | o :: rest, us =>
    match o.dst, o.guard with
    | some d, some (j, c) =>
      Nat.blt d N && !(Nat.beq d dj) &&
      (match (ops[j]?).bind (·.dst) with
       | some e => (Nat.beq e dj && (c == b)) || (us.contains e && !(Nat.beq e dj))
       | none => false) && skips ops N dj b rest (d :: us)
    | _, _ => false

theorem gj_skips {ops : Array Oper} {K : Regs → Prop} {dj : Nat} {b g : Bool} (hne : (g == b) = false) : ∀ (blk : List Oper) (us : List Nat) (L : Regs), skips ops C.N dj b blk us = true → look L dj = some (.bool g) → (∀ u ∈ us, look L u = some undef) →
    (∀ L' : Regs, look L' dj = some (.bool g) → (∀ t v, look L t = some v → (∀ o ∈ blk, o.dst ≠ some t) → look L' t = some v) → (∀ o ∈ blk, ∀ d, o.dst = some d → look L' d = some undef) → K L') → GJ C ops O S blk L K
  | [], _, L, _, hl, _, hk => hk L hl (fun _ _ h _ => h) (by simp)
  | o :: blk, us, L, hs, hl, hu, hk => by
    unfold skips at hs
    cases hd : o.dst with
    | none => simp [hd] at hs
    | some d =>
      cases hg : o.guard with
      | none => simp [hd, hg] at hs
      | some jc =>
        obtain ⟨j, c⟩ := jc
        simp only [hd, hg, Bool.and_eq_true] at hs
        obtain ⟨⟨⟨hdN, hdd⟩, hm⟩, hs'⟩ := hs
        have hdd' : d ≠ dj := by intro e; subst e; simp at hdd
        have hl' : look ((d, undef) :: L) dj = some (.bool g) := by rw [look_cons, if_neg hdd']; exact hl
        have hu' : ∀ u ∈ d :: us, look ((d, undef) :: L) u = some undef := by
          intro u hu0
          rw [look_cons]
          by_cases e : d = u
          · rw [if_pos e]
          · rw [if_neg e]
            rcases List.mem_cons.1 hu0 with h | h
            · exact absurd h.symm e
            · exact hu u h
        have hnext : GJ C ops O S blk ((d, undef) :: L) K := by
          refine gj_skips hne blk (d :: us) _ hs' hl' hu' fun L' h1 h2 h3 => ?_
          refine hk L' h1 (fun t v ht hno => h2 t v ?_ (fun o' ho' => hno o' (by simp [ho']))) (fun o' ho' d' hd' => ?_)
          · rw [look_cons, if_neg]
            · exact ht
            · intro e; subst e; exact hno o (by simp) hd
          · by_cases hin : ∃ o'' ∈ blk, o''.dst = some d'
            · obtain ⟨o'', ho'', hd''⟩ := hin
              exact h3 o'' ho'' d' hd''
            · rcases List.mem_cons.1 ho' with h | h
              · subst h
                rw [hd] at hd'
                simp only [Option.some.injEq] at hd'
                subst hd'
                exact h2 d undef (by rw [look_cons, if_pos rfl]) (fun o'' ho'' hd'' => hin ⟨o'', ho'', hd''⟩)
              · exact absurd ⟨o', h, hd'⟩ hin
        cases he : (ops[j]?).bind (·.dst) with
        | none => simp [he] at hm
        | some e =>
          simp only [he, Bool.or_eq_true, Bool.and_eq_true] at hm
          rcases hm with ⟨h1, h2⟩ | ⟨h1, h2⟩
          · have h1' : e = dj := Nat.eq_of_beq_eq_true h1
            have h2' : c = b := by simpa using h2
            subst h1' h2'
            exact gj_no hg he hl hne hd hdN hnext
          · exact gj_undef hg he (hu e (by simpa using h1)) hd hdN hnext

/-- THE RULE: a run of m operations under the guard 'g == b': what its last one, in slot d, comes to if they are carried out is 'v'; all else that they leave is forgotten. -/
theorem gj_guard {ops : Array Oper} {l : List Oper} {K : Regs → Prop} (m : Nat) {dj d : Nat} {b g : Bool} {v : Value} (hl : look L dj = some (.bool g)) (hs : skips ops C.N dj b (l.take m) [] = true) (hd : (l.take m).any (fun o => o.dst == some d) = true)
    (hy : g = b → GJ C ops O S (l.take m) ((dj, .bool b) :: L) (fun L' => look L' d = some v))
    (k : ∀ L' : Regs, (∀ t u, look L t = some u → (l.take m).all (fun o => o.dst != some t) = true → look L' t = some u) → look L' d = some (gd g b v) → GJ C ops O S (l.drop m) L' K) : GJ C ops O S l L K := by
  rw [← List.take_append_drop m l]
  refine gj_append _ _ _ ?_
  by_cases hgb : g = b
  · subst hgb
    have h1 := hy rfl
    -- the same regs, but for a repeated entry
    have hk : ∀ (blk : List Oper) (L1 L2 : Regs), (∀ t, look L1 t = look L2 t) → GJ C ops O S blk L1 (fun L' => look L' d = some v) →
        (∀ L', (∀ t u, look L2 t = some u → blk.all (fun o => o.dst != some t) = true → look L' t = some u) → look L' d = some v → GJ C ops O S (l.drop m) L' K) → GJ C ops O S blk L2 (fun L' => GJ C ops O S (l.drop m) L' K) := by
      intro blk
      induction blk with
      | nil => intro L1 L2 he h hk; exact hk L2 (fun _ _ h _ => h) (by rw [← he]; exact h)
      | cons o blk ih =>
        intro L1 L2 he h hk
        obtain ⟨v', d', hd', hdN', hs', h'⟩ := h
        refine ⟨v', d', hd', hdN', fun a w hr hp => hs' a w (hr.sub fun k v hkv => by rw [← he]; exact hkv) hp, ?_⟩
        refine ih ((d', v') :: L1) ((d', v') :: L2) (fun t => by rw [look_cons, look_cons, he]) h' fun L' h1 h2 => hk L' (fun t u ht hall => ?_) h2
        simp only [List.all_cons, Bool.and_eq_true] at hall
        refine h1 t u ?_ hall.2
        rw [look_cons, if_neg]
        · exact ht
        · intro e; subst e; simp [hd'] at hall
    refine hk _ _ _ (fun t => ?_) h1 fun L' ha hb => k L' ha (by simpa [gd] using hb)
    rw [look_cons]
    by_cases e : dj = t
    · subst e; rw [if_pos rfl, hl]
    · rw [if_neg e]
  · have hne : (g == b) = false := by simp [hgb]
    refine gj_skips hne _ [] L hs hl (by simp) fun L' h1 h2 h3 => k L' (fun t u ht hall => h2 t u ht (fun o ho he => ?_)) ?_
    · have := List.all_eq_true.1 hall o ho
      simp [he] at this
    · obtain ⟨o, ho, hod⟩ := List.any_eq_true.1 hd
      have hod' : o.dst = some d := by simpa using hod
      have h4 := h3 o ho d hod'
      simp [gd, hne, h4]
end Go.Sx
