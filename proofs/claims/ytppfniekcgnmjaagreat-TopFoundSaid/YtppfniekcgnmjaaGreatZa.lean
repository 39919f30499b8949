/- Texts of ours, joined: 16 of them. Conditions: none. -/
import Derived.WalkKit
import Derived.OwnWalkIn
import Derived.OrdersIn
import Derived.TacticsIn
import Derived.KernelRfl
import Derived.RangeFuncCalls
import Derived.Maps.AppendAt
import Derived.Laws.ResultCell
import Derived.Scope
import Derived.ProofKit
import Derived.Carry
import Derived.OpenShut
import Derived.SizedLaws
import Derived.RangeFuncLeaves
import Derived.RangeFuncRecord
import Derived.RangeFuncSeq
namespace Go.Sx
open Go.RowKit

/-- The fence that lets all in, within a round of a range over a function or not. -/
def FR (ro : Option Nat) : Fence := { Fence.wide with round := ro }

theorem callsIn_FR {ro : Option Nat} {n : Nat} {P : Program} {f : FuncId} {args : Array Value} {w : World} {R : Ending → World → Prop} :
    CallsIn (FR ro) n P f args w R ↔ Calls P f args w R := callsIn_wide (n := n)

theorem wpIn_FR_none {n : Nat} {P : Program} {c : Code} {Q : Exit → Act → World → Prop} {a : Act} {w : World} : c.wpIn (FR none) n P Q a w ↔ c.wp P Q a w := wpIn_wide

/-! ### Temporaries -/
abbrev Regs := List (Nat × Value)
def look : Regs → Nat → Option Value
  | [], _ => none
  | (k, v) :: r, n => bif Nat.beq k n then some v else look r n

def val (L : Regs) : Operand → Option Value
  | .tmp t => look L t
  | .const v => some v
  | .global g => some (.pointer (some ⟨g, 0, none⟩))
  | .func f => some (.func (.func f) #[] #[])

structure RegsOk (N : Nat) (D : List Deferred) (L : Regs) (a : Act) : Prop where
  defers : a.defers = D
  size : a.tmps.size = N
  look : ∀ k v, look L k = some v → a.tmps[k]? = some v

theorem RegsOk.val {N : Nat} {D : List Deferred} {L : Regs} {a : Act} (h : RegsOk N D L a) {x : Operand} {v : Value} (hx : val L x = some v) : a.eval x = v := by
  cases x with
  | tmp t => have := h.look t v hx; simp [Act.eval, Array.getD_eq_getD_getElem?, this]
  | const v => simpa [Sx.val, Act.eval] using hx
  | global g => simpa [Sx.val, Act.eval] using hx
  | func f => simpa [Sx.val, Act.eval] using hx

theorem look_cons (k : Nat) (v : Value) (r : Regs) (n : Nat) : look ((k, v) :: r) n = if k = n then some v else look r n := by
  by_cases h : k = n
  · subst h; simp [look]
  · simp only [look, if_neg h]
    have : Nat.beq k n = false := by
      cases hb : Nat.beq k n with
      | false => rfl
      | true => exact absurd (Nat.eq_of_beq_eq_true hb) h
    simp [this]

theorem RegsOk.put {N : Nat} {D : List Deferred} {L : Regs} {a : Act} (h : RegsOk N D L a) {d : Nat} (hd : d < N) (v : Value) : RegsOk N D ((d, v) :: L) (a.put (some d) v) := by
  refine ⟨h.defers, by simp [Act.put, h.size], fun k u hk => ?_⟩
  rw [look_cons] at hk
  simp only [Act.put, Array.getElem?_setIfInBounds]
  by_cases e : d = k
  · subst e
    rw [if_pos rfl] at hk
    have := h.size
    simp only [Option.some.injEq] at hk
    subst hk
    simp [h.size, hd]
  · rw [if_neg e] at hk
    rw [if_neg e]
    exact h.look k u hk

/-- Less is known. -/
theorem RegsOk.sub {N : Nat} {D : List Deferred} {L L' : Regs} {a : Act} (h : RegsOk N D L a) (hs : ∀ k v, Sx.look L' k = some v → Sx.look L k = some v) : RegsOk N D L' a :=
  ⟨h.defers, h.size, fun k v hk => h.look k v (hs k v hk)⟩

/-- The same as a check by reckoning: each of the new list's entries is found in the old one. -/
def subR (L : Regs) : Regs → Prop
  | [] => True
  | p :: r => look L p.1 = some p.2 ∧ subR L r
theorem RegsOk.subR {N : Nat} {D : List Deferred} {L L' : Regs} {a : Act} (h : RegsOk N D L a) (hs : subR L L') : RegsOk N D L' a := by
  refine h.sub ?_
  induction L' with
  | nil => intro k v hk; cases hk
  | cons p r ih =>
    obtain ⟨k0, v0⟩ := p
    intro k v hk
    rw [look_cons] at hk
    by_cases e : k0 = k
    · subst e
      rw [if_pos rfl] at hk
      rw [hs.1]; exact hk
    · rw [if_neg e] at hk
      exact ih hs.2 k v hk

/-! ### Memory -/
/-- A statement about some blocks: 'fp' says which; it holds as long as these are as they are. -/
structure Fact where
  fp : Nat → Prop
  P : World → Prop
  stab : ∀ {w w' : World}, (∀ b, fp b → w'.heap[b]? = w.heap[b]?) → P w → P w'

/-- What is known of memory: 'F': blocks that are as they were at first; 'O': what the function owns, each apart from all else; 'S': what is shared and is not written. -/
structure Hp (F : Nat → Prop) (w0 : World) (O S : List Fact) (w : World) : Prop where
  os : w.os = w0.os
  tape : w.tape = w0.tape
  output : w.output = w0.output
  size : w0.heap.size ≤ w.heap.size
  fr : ∀ b, F b → b < w0.heap.size ∧ w.heap[b]? = w0.heap[b]?
  own : ∀ f ∈ O, f.P w ∧ ∀ b, f.fp b → b < w.heap.size ∧ ¬ F b
  apart : O.Pairwise (fun f g => ∀ b, f.fp b → ¬ g.fp b)
  shared : ∀ f ∈ S, f.P w ∧ (∀ b, f.fp b → b < w.heap.size) ∧ ∀ g ∈ O, ∀ b, f.fp b → ¬ g.fp b

/-- Nothing that was there has turned. -/
abbrev Grow (w w' : World) : Prop := Below w.heap.size w w'

theorem Hp.grow {F : Nat → Prop} {w0 : World} {O S : List Fact} {w w' : World} (h : Hp F w0 O S w) (hg : Grow w w') : Hp F w0 O S w' where
  os := hg.os.trans h.os
  tape := hg.tape.trans h.tape
  output := hg.output.trans h.output
  size := Nat.le_trans h.size hg.size
  fr := fun b hb => ⟨(h.fr b hb).1, (hg.block b (Nat.lt_of_lt_of_le (h.fr b hb).1 h.size)).trans (h.fr b hb).2⟩
  own := fun f hf => ⟨f.stab (fun b hb => hg.block b ((h.own f hf).2 b hb).1) (h.own f hf).1, fun b hb => ⟨Nat.lt_of_lt_of_le ((h.own f hf).2 b hb).1 hg.size, ((h.own f hf).2 b hb).2⟩⟩
  apart := h.apart
  shared := fun f hf => ⟨f.stab (fun b hb => hg.block b ((h.shared f hf).2.1 b hb)) (h.shared f hf).1, fun b hb => Nat.lt_of_lt_of_le ((h.shared f hf).2.1 b hb) hg.size, (h.shared f hf).2.2⟩

/-- A new shared assertion, about new blocks. -/
theorem Hp.addS {F : Nat → Prop} {w0 : World} {O S : List Fact} {w : World} (h : Hp F w0 O S w) (f : Fact) (hP : f.P w) (hlt : ∀ b, f.fp b → b < w.heap.size) (hap : ∀ g ∈ O, ∀ b, f.fp b → ¬ g.fp b) : Hp F w0 O (f :: S) w :=
  ⟨h.os, h.tape, h.output, h.size, h.fr, h.own, h.apart, fun g hg => by
    rcases List.mem_cons.1 hg with rfl | hg
    · exact ⟨hP, hlt, hap⟩
    · exact h.shared g hg⟩

/-- A new exclusive assertion, about blocks that are new since w. -/
theorem Hp.addO {F : Nat → Prop} {w0 : World} {O S : List Fact} {w w' : World} (h : Hp F w0 O S w) (hg : Grow w w') (f : Fact) (hP : f.P w') (hfp : ∀ b, f.fp b → w.heap.size ≤ b ∧ b < w'.heap.size) : Hp F w0 (f :: O) S w' :=
  { h.grow hg with
    own := fun g hg' => by
      rcases List.mem_cons.1 hg' with rfl | hg'
      · refine ⟨hP, fun b hb => ⟨(hfp b hb).2, fun hF => ?_⟩⟩
        have h1 := (h.fr b hF).1
        have h2 := (hfp b hb).1
        have h3 := h.size
        omega
      · exact (h.grow hg).own g hg'
    apart := by
      refine List.pairwise_cons.2 ⟨fun g hg' b hb hb' => ?_, h.apart⟩
      have h1 := ((h.own g hg').2 b hb').1
      have h2 := (hfp b hb).1
      omega
    shared := fun g hg' => by
      refine ⟨((h.grow hg).shared g hg').1, ((h.grow hg).shared g hg').2.1, fun o ho b hb hb' => ?_⟩
      rcases List.mem_cons.1 ho with rfl | ho
      · have h1 := (h.shared g hg').2.1 b hb
        have h2 := (hfp b hb').1
        omega
      · exact (h.shared g hg').2.2 o ho b hb hb' }

/-- The exclusive assertions, one of them replaced. -/
inductive Rep : List Fact → Fact → Fact → List Fact → Prop
  | head (f f' : Fact) (O : List Fact) : Rep (f :: O) f f' (f' :: O)
  | tail (g f f' : Fact) (O O' : List Fact) : Rep O f f' O' → Rep (g :: O) f f' (g :: O')

theorem Rep.mem {O O' : List Fact} {f f' : Fact} (h : Rep O f f' O') : f ∈ O := by
  induction h with
  | head => simp
  | tail _ _ _ _ _ _ ih => simp [ih]

theorem Rep.mem' {O O' : List Fact} {f f' : Fact} (h : Rep O f f' O') {g : Fact} (hg : g ∈ O') : g = f' ∨ g ∈ O := by
  induction h with
  | head f f' O => rcases List.mem_cons.1 hg with h | h <;> simp [h]
  | tail x f f' O O' _ ih =>
    rcases List.mem_cons.1 hg with h | h
    · right; simp [h]
    · rcases ih h with h | h
      · exact .inl h
      · right; simp [h]

theorem Rep.others {O O' : List Fact} {f f' : Fact} (hr : Rep O f f' O') : O.Pairwise (fun f g => ∀ b, f.fp b → ¬ g.fp b) → ∀ g ∈ O', g = f' ∨ (g ∈ O ∧ (∀ b, g.fp b → ¬ f.fp b)) := by
  induction hr with
  | head f f' O =>
    intro hpw g hg
    rcases List.mem_cons.1 hg with h | h
    · exact .inl h
    · exact .inr ⟨by simp [h], fun b hb hb' => (List.pairwise_cons.1 hpw).1 g h b hb' hb⟩
  | tail x f f' O O' hr' ih =>
    intro hpw g hg
    rcases List.mem_cons.1 hg with h | h
    · subst h; exact .inr ⟨by simp, fun b hb hb' => (List.pairwise_cons.1 hpw).1 f hr'.mem b hb hb'⟩
    · rcases ih (List.pairwise_cons.1 hpw).2 g h with h | ⟨h1, h2⟩
      · exact .inl h
      · exact .inr ⟨by simp [h1], h2⟩

theorem Rep.pairwise {O O' : List Fact} {f f' : Fact} {n : Nat} (hr : Rep O f f' O') : (∀ b, f'.fp b → f.fp b ∨ n ≤ b) → (∀ g ∈ O, ∀ b, g.fp b → b < n) →
    O.Pairwise (fun f g => ∀ b, f.fp b → ¬ g.fp b) → O'.Pairwise (fun f g => ∀ b, f.fp b → ¬ g.fp b) := by
  induction hr with
  | head f f' O =>
    intro hfp hlt hpw
    refine List.pairwise_cons.2 ⟨fun g hg b hb hb' => ?_, (List.pairwise_cons.1 hpw).2⟩
    rcases hfp b hb with h3 | h3
    · exact (List.pairwise_cons.1 hpw).1 g hg b h3 hb'
    · have := hlt g (by simp [hg]) b hb'; omega
  | tail x f f' O O' hr' ih =>
    intro hfp hlt hpw
    refine List.pairwise_cons.2 ⟨fun g hg b hb hb' => ?_, ih hfp (fun g hg => hlt g (by simp [hg])) (List.pairwise_cons.1 hpw).2⟩
    rcases hr'.mem' hg with rfl | hg
    · rcases hfp b hb' with h3 | h3
      · exact (List.pairwise_cons.1 hpw).1 _ hr'.mem b hb h3
      · have := hlt x (by simp) b hb; omega
    · exact (List.pairwise_cons.1 hpw).1 g hg b hb hb'

/-- A write into the blocks of one exclusive assertion: 'w'' is as 'w' but for these, and may have grown; the new assertion's blocks are among the old one's, or new. -/
theorem Hp.write {F : Nat → Prop} {w0 : World} {O O' S : List Fact} {f f' : Fact} {w w' : World} (h : Hp F w0 O S w) (hr : Rep O f f' O')
    (hos : w'.os = w.os) (htape : w'.tape = w.tape) (hout : w'.output = w.output) (hsz : w.heap.size ≤ w'.heap.size)
    (hsame : ∀ b, b < w.heap.size → ¬ f.fp b → w'.heap[b]? = w.heap[b]?) (hP : f'.P w') (hfp : ∀ b, f'.fp b → b < w'.heap.size ∧ (f.fp b ∨ w.heap.size ≤ b)) :
    Hp F w0 O' S w' := by
  have hf := hr.mem
  have hap := hr.others h.apart
  refine ⟨hos.trans h.os, htape.trans h.tape, hout.trans h.output, Nat.le_trans h.size hsz, fun b hb => ?_, fun g hg => ?_, ?_, fun g hg => ?_⟩
  · refine ⟨(h.fr b hb).1, (hsame b (Nat.lt_of_lt_of_le (h.fr b hb).1 h.size) (fun hfb => ((h.own f hf).2 b hfb).2 hb)).trans (h.fr b hb).2⟩
  · rcases hap g hg with rfl | ⟨h1, h2⟩
    · refine ⟨hP, fun b hb => ⟨(hfp b hb).1, fun hF => ?_⟩⟩
      rcases (hfp b hb).2 with h3 | h3
      · exact ((h.own f hf).2 b h3).2 hF
      · have h4 := (h.fr b hF).1
        have h5 := h.size
        omega
    · exact ⟨g.stab (fun b hb => hsame b ((h.own g h1).2 b hb).1 (h2 b hb)) (h.own g h1).1, fun b hb => ⟨Nat.lt_of_lt_of_le ((h.own g h1).2 b hb).1 hsz, ((h.own g h1).2 b hb).2⟩⟩
  · exact hr.pairwise (fun b hb => (hfp b hb).2) (fun g hg b hb => ((h.own g hg).2 b hb).1) h.apart
  · have hs := h.shared g hg
    refine ⟨g.stab (fun b hb => hsame b (hs.2.1 b hb) (hs.2.2 f hf b hb)) hs.1, fun b hb => Nat.lt_of_lt_of_le (hs.2.1 b hb) hsz, fun o ho b hb hb' => ?_⟩
    rcases hap o ho with rfl | ⟨h1, _⟩
    · rcases (hfp b hb').2 with h3 | h3
      · exact hs.2.2 f hf b hb h3
      · have := hs.2.1 b hb; omega
    · exact hs.2.2 o h1 b hb hb'

/-- Less is known: exclusive assertions may be dropped, shared ones too. -/
theorem Hp.sub {F : Nat → Prop} {w0 : World} {O O' S S' : List Fact} {w : World} (h : Hp F w0 O S w) (hO : O'.Sublist O) (hS : ∀ f ∈ S', f ∈ S) : Hp F w0 O' S' w where
  os := h.os
  tape := h.tape
  output := h.output
  size := h.size
  fr := h.fr
  own := fun f hf => h.own f (hO.subset hf)
  apart := h.apart.sublist hO
  shared := fun f hf => ⟨(h.shared f (hS f hf)).1, (h.shared f (hS f hf)).2.1, fun g hg => (h.shared f (hS f hf)).2.2 g (hO.subset hg)⟩

theorem Hp.start (F : Nat → Prop) (w : World) (hF : ∀ b, F b → b < w.heap.size) : Hp F w [] [] w :=
  ⟨rfl, rfl, rfl, Nat.le_refl _, fun b hb => ⟨hF b hb, rfl⟩, by simp, by simp, by simp⟩

theorem Hp.below {w0 w : World} {O S : List Fact} (h : Hp (fun b => b < w0.heap.size) w0 O S w) : Grow w0 w := ⟨h.os, h.tape, h.output, h.size, fun b hb => (h.fr b hb).2⟩

end Go.Sx
namespace Go.Sx
open Go.RowKit

/-- What stays the same throughout one function's walk. -/
structure Cx where
  P : Program
  ro : Option Nat
  F : Nat → Prop
  w0 : World
  N : Nat
  D : List Deferred

def AJ (C : Cx) (K : Act → World → Prop) (L : Regs) (O S : List Fact) : Prop := ∀ a w, RegsOk C.N C.D L a → Hp C.F C.w0 O S w → K a w
def OJ (C : Cx) (ops : Array Oper) (Q : Exit → Act → World → Prop) (rest : List Oper) (L : Regs) (O S : List Fact) : Prop := AJ C (wpListIn (FR C.ro) 0 C.P ops Q rest) L O S
def CJ (C : Cx) (c : Code) (Q : Exit → Act → World → Prop) (L : Regs) (O S : List Fact) : Prop := AJ C (c.wpIn (FR C.ro) 0 C.P Q) L O S
def EJ (C : Cx) (Q : Exit → Act → World → Prop) (e : Exit) (L : Regs) (O S : List Fact) : Prop := AJ C (Q e) L O S
/-- What follows a piece of code, in the walk's own form. -/
abbrev Th (C : Cx) (y : Code) (Q : Exit → Act → World → Prop) : Exit → Act → World → Prop := Exit.then (y.wpIn (FR C.ro) 0 C.P Q) Q

variable {C : Cx} {Q : Exit → Act → World → Prop} {L L' : Regs} {O O' S S' : List Fact}

/-! ### Control -/
theorem cj_seq {x y : Code} (h : CJ C x (Th C y Q) L O S) : CJ C (.seq x y) Q L O S := fun a w hr hp => wpIn_seq (h a w hr hp)
theorem cj_skip (h : EJ C Q .normal L O S) : CJ C .skip Q L O S := fun a w hr hp => wpIn_skip (h a w hr hp)
theorem cj_label {l : Nat} (h : EJ C Q .normal L O S) : CJ C (.label l) Q L O S := fun a w hr hp => wpIn_label (h a w hr hp)
theorem cj_exit {id : Nat} (h : EJ C Q (.exit id) L O S) : CJ C (.exit id) Q L O S := fun a w hr hp => wpIn_exit (h a w hr hp)
theorem cj_ret (h : EJ C Q .ret L O S) : CJ C .ret Q L O S := fun a w hr hp => wpIn_ret (h a w hr hp)
theorem cj_block {id : Nat} {c : Code} (h : CJ C c (Exit.inBlock id Q) L O S) : CJ C (.block id c) Q L O S := fun a w hr hp => wpIn_block (h a w hr hp)
theorem cj_cond {c : Operand} {x y : Code} {t : Bool} (hc : val L c = some (.bool t)) (ht : t = true → CJ C x Q L O S) (hf : t = false → CJ C y Q L O S) : CJ C (.cond c x y) Q L O S :=
  fun a w hr hp => wpIn_cond_split (hr.val hc) (fun h => ht h a w hr hp) (fun h => hf h a w hr hp)

theorem ej_th {y : Code} (h : CJ C y Q L O S) : EJ C (Th C y Q) .normal L O S := h
theorem ej_then_exit {K : Act → World → Prop} {id : Nat} (h : EJ C Q (.exit id) L O S) : EJ C (Exit.then K Q) (.exit id) L O S := h
theorem ej_then_ret {K : Act → World → Prop} (h : EJ C Q .ret L O S) : EJ C (Exit.then K Q) .ret L O S := h
theorem ej_blk {id : Nat} (h : EJ C Q .normal L O S) : EJ C (Exit.inBlock id Q) .normal L O S := h
theorem ej_blk_ret {id : Nat} (h : EJ C Q .ret L O S) : EJ C (Exit.inBlock id Q) .ret L O S := h
theorem ej_blk_hit {id : Nat} (h : EJ C Q .normal L O S) : EJ C (Exit.inBlock id Q) (.exit id) L O S := fun a w hr hp => by
  show if id = id then _ else _
  rw [if_pos rfl]; exact h a w hr hp
theorem ej_blk_pass {id id' : Nat} (hne : Nat.beq id' id = false) (h : EJ C Q (.exit id') L O S) : EJ C (Exit.inBlock id Q) (.exit id') L O S := fun a w hr hp => by
  show if id' = id then _ else _
  rw [if_neg (fun e => by subst e; simp at hne)]; exact h a w hr hp
theorem ej_noGoto_ret (h : EJ C Q .ret L O S) : EJ C (Exit.noGoto Q) .ret L O S := h

theorem cj_region {id : Nat} {l : List Oper} (h : OJ C l.toArray Q l L O S) : CJ C (.region id l.toArray false) Q L O S := fun a w hr hp => wpIn_region_lit (h a w hr hp)
theorem oj_nil {ops : Array Oper} (h : EJ C Q .normal L O S) : OJ C ops Q [] L O S := h

/-- A loop: a family of states 'x : X', each known by 'Lx x', 'Ox x', 'Sx x' and 'inv x'; a measure. -/
def LoopI (C : Cx) {X : Type} (inv : X → Prop) (Lx : X → Regs) (Ox Sx : X → List Fact) (x : X) (a : Act) (w : World) : Prop := inv x ∧ RegsOk C.N C.D (Lx x) a ∧ Hp C.F C.w0 (Ox x) (Sx x) w

theorem cj_loop {c : Code} {X : Type} (inv : X → Prop) (Lx : X → Regs) (Ox Sx : X → List Fact) (μ : X → Nat) (x0 : X) (h0 : inv x0) (hL : subR L (Lx x0)) (hO : (Ox x0).Sublist O) (hS : ∀ f ∈ Sx x0, f ∈ S)
    (round : ∀ x, inv x → CJ C c (Exit.then (fun a w => ∃ x', μ x' < μ x ∧ LoopI C inv Lx Ox Sx x' a w) Q) (Lx x) (Ox x) (Sx x)) : CJ C (.loop c) Q L O S := by
  intro a w hr hp b k cs hro hb hroom
  have key : ∀ n x a w, μ x = n → LoopI C inv Lx Ox Sx x a w →
      ∃ e a' w', Q e a' w' ∧ ArrivesIn (Machine.fenced C.P (FR C.ro)) C.P (lone (b.atR a (.code c :: .inLoop c :: k)) cs w) b k cs e a' w' := by
    intro n
    induction n using Nat.strongRecOn with
    | _ n ih =>
      intro x a w hn hI
      obtain ⟨e, a₁, w₁, hq, harr⟩ := round x hI.1 a w hI.2.1 hI.2.2 b (.inLoop c :: k) cs hro hb hroom
      cases e with
      | normal =>
        obtain ⟨x', hlt, hI'⟩ := hq
        obtain ⟨e₂, a₂, w₂, hq₂, harr₂⟩ := ih (μ x') (hn ▸ hlt) x' a₁ w₁ rfl hI'
        exact ⟨e₂, a₂, w₂, hq₂, .of_steps (StepsIn.trans harr (.one (fenced_calm hb hroom rfl) stepR_inLoop)) harr₂⟩
      | exit id => exact ⟨_, a₁, w₁, hq, .pass (x := .inLoop c) rfl (fun _ _ => .inl (by simp)) harr⟩
      | goto l => exact ⟨_, a₁, w₁, hq, .pass (x := .inLoop c) rfl (fun _ _ => .inl (by simp)) harr⟩
      | ret => exact ⟨_, a₁, w₁, hq, .pass (x := .inLoop c) rfl (fun _ _ => .inl (by simp)) harr⟩
      | panic ch => exact ⟨_, a₁, w₁, hq, .pass (x := .inLoop c) rfl (fun _ _ => .inl (by simp)) harr⟩
      | outgrown => exact ⟨_, a₁, w₁, hq, .pass (x := .inLoop c) rfl (fun _ _ => .inl (by simp)) harr⟩
  obtain ⟨e, a', w', hq, harr⟩ := key _ x0 a w rfl ⟨h0, hr.subR hL, hp.sub hO hS⟩
  exact ⟨e, a', w', hq, .of_steps (.one (fenced_calm hb hroom rfl) stepR_loop) harr⟩

/-- The end of a round. -/
theorem ej_next {X : Type} {inv : X → Prop} {Lx : X → Regs} {Ox Sx : X → List Fact} {μ : X → Nat} {m : Nat} (x' : X) (hm : μ x' < m) (hi : inv x') (hL : subR L (Lx x')) (hO : (Ox x').Sublist O) (hS : ∀ f ∈ Sx x', f ∈ S) :
    EJ C (Exit.then (fun a w => ∃ x', μ x' < m ∧ LoopI C inv Lx Ox Sx x' a w) Q) .normal L O S :=
  fun _ _ hr hp => ⟨x', hm, hi, hr.subR hL, hp.sub hO hS⟩

/-- A cut: what follows a piece of code is walked once, from a family of states that all ways out of the piece come to. -/
theorem cj_cut {x y : Code} {X : Type} (inv : X → Prop) (Lx : X → Regs) (Ox Sx : X → List Fact)
    (h1 : CJ C x (Exit.then (fun a w => ∃ x, LoopI C inv Lx Ox Sx x a w) Q) L O S) (h2 : ∀ x, inv x → CJ C y Q (Lx x) (Ox x) (Sx x)) : CJ C (.seq x y) Q L O S := by
  refine fun a w hr hp => wpIn_seq (wpIn_mono (h1 a w hr hp) fun e a w hq => ?_)
  cases e with
  | normal => obtain ⟨x, hi, hL, hH⟩ := hq; exact h2 x hi a w hL hH
  | _ => exact hq
theorem ej_cut {X : Type} {inv : X → Prop} {Lx : X → Regs} {Ox Sx : X → List Fact} (x' : X) (hi : inv x') (hL : subR L (Lx x')) (hO : (Ox x').Sublist O) (hS : ∀ f ∈ Sx x', f ∈ S) :
    EJ C (Exit.then (fun a w => ∃ x, LoopI C inv Lx Ox Sx x a w) Q) .normal L O S :=
  fun _ _ hr hp => ⟨x', hi, hr.subR hL, hp.sub hO hS⟩

/-! ### A function's beginning and end -/
def regsOf : Nat → List Value → Regs
  | _, [] => []
  | n, v :: r => (n, v) :: regsOf (n + 1) r

theorem look_regsOf (l : List Value) : ∀ n k v, look (regsOf n l) k = some v → n ≤ k ∧ l[k - n]? = some v := by
  induction l with
  | nil => intro n k v h; cases h
  | cons x r ih =>
    intro n k v h
    rw [regsOf, look_cons] at h
    by_cases e : n = k
    · subst e; rw [if_pos rfl] at h; simp at h; exact ⟨Nat.le_refl _, by simp [h]⟩
    · rw [if_neg e] at h
      obtain ⟨h1, h2⟩ := ih (n + 1) k v h
      refine ⟨by omega, ?_⟩
      have : k - n = (k - (n + 1)) + 1 := by omega
      rw [this]; simpa using h2

theorem enter {P : Program} {f : FuncId} {fn : Func} {c : Code} {args : List Value} {w : World} {R : Ending → World → Prop} (F : Nat → Prop) (O S : List Fact)
    (hf : P.funcs[f]? = some fn) (hb : fn.body = some c) (hn : args.length ≤ fn.ntmps) (hp : Hp F w O S w)
    (h : CJ ⟨P, none, F, w, fn.ntmps, []⟩ c (bodyPost P fn R) (regsOf 0 args) O S) : Calls P f args.toArray w R := by
  refine calls_of_wp hf hb (wpIn_FR_none.1 (h _ w ⟨rfl, ?_, fun k v hk => ?_⟩ hp))
  · simp; omega
  · obtain ⟨_, h2⟩ := look_regsOf args 0 k v hk
    simp only [Nat.sub_zero] at h2
    have hk' : k < args.length := (List.getElem?_eq_some_iff.1 h2).1
    rw [Array.getElem?_append_left (by simpa using hk')]
    simpa using h2

/-- A pure function: nothing that was there turns. -/
theorem enter_pure {P : Program} {f : FuncId} {fn : Func} {c : Code} {args : List Value} {w : World} {R : Ending → World → Prop} (S : List Fact)
    (hf : P.funcs[f]? = some fn) (hb : fn.body = some c) (hn : args.length ≤ fn.ntmps) (hS : ∀ g ∈ S, g.P w ∧ ∀ b, g.fp b → b < w.heap.size)
    (h : CJ ⟨P, none, fun b => b < w.heap.size, w, fn.ntmps, []⟩ c (bodyPost P fn R) (regsOf 0 args) [] S) : Calls P f args.toArray w R := by
  refine enter (fun b => b < w.heap.size) [] S hf hb hn ?_ h
  exact ⟨rfl, rfl, rfl, Nat.le_refl _, fun b hb => ⟨hb, rfl⟩, by simp, by simp, fun g hg => ⟨(hS g hg).1, (hS g hg).2, by simp⟩⟩

theorem getD_of_look {N : Nat} {D : List Deferred} {a : Act} (h : RegsOk N D L a) {t : Nat} {v : Value} (hk : look L t = some v) : a.tmps.getD t undef = v := by
  simp [Array.getD_eq_getD_getElem?, h.look t v hk]

theorem ej_ret1 {fn : Func} {R : Ending → World → Prop} {t : Tmp} {v : Value} (hD : C.D = []) (h : fn.results = #[.tmp t]) (hv : look L t = some v) (hR : ∀ w, Hp C.F C.w0 O S w → R (.returned v) w) :
    EJ C (bodyPost C.P fn R) .ret L O S := fun a w hr hp => ⟨hr.defers.trans hD, v, by rw [results_tmp h, getD_of_look hr hv], hR w hp⟩
theorem ej_ret2 {fn : Func} {R : Ending → World → Prop} {t u : Tmp} {v x : Value} (hD : C.D = []) (h : fn.results = #[.tmp t, .tmp u]) (hv : look L t = some v) (hx : look L u = some x) (hR : ∀ w, Hp C.F C.w0 O S w → R (.returned (.tuple #[v, x])) w) :
    EJ C (bodyPost C.P fn R) .ret L O S := fun a w hr hp => ⟨hr.defers.trans hD, .tuple #[v, x], by rw [results_tmp2 h, getD_of_look hr hv, getD_of_look hr hx], hR w hp⟩
theorem ej_ret0 {fn : Func} {R : Ending → World → Prop} (hD : C.D = []) (h : fn.results = #[]) (hR : ∀ w, Hp C.F C.w0 O S w → R (.returned (.tuple #[])) w) :
    EJ C (bodyPost C.P fn R) .ret L O S := fun _ w hr hp => ⟨hr.defers.trans hD, .tuple #[], results_none h _ _ _, hR w hp⟩
theorem ej_end0 {fn : Func} {R : Ending → World → Prop} (hD : C.D = []) (h : fn.results = #[]) (hR : ∀ w, Hp C.F C.w0 O S w → R (.returned (.tuple #[])) w) :
    EJ C (bodyPost C.P fn R) .normal L O S := fun _ w hr hp => ⟨hr.defers.trans hD, .tuple #[], results_none h _ _ _, hR w hp⟩

/-! ### Single operations -/
/-- The operation yields v, and nothing that is known of memory is lost. -/
def YieldsV (C : Cx) (o : Oper) (a : Act) (w : World) (v : Value) : Prop :=
  match (execOp a.eval o).run C.P w with
  | .ok (.value u) w' => w' = w ∧ u = v
  | .ok .skip w' => w' = w ∧ v = undef
  | .ok (.enter f args) w' => w' = w ∧ Calls C.P f args w (fun e w'' => e = .returned v ∧ Grow w w'')
  | _ => False

def Yi (C : Cx) (o : Oper) (L : Regs) (O S : List Fact) (v : Value) : Prop :=
  (∀ c, o.op ≠ .defer c) ∧ ∀ a w, RegsOk C.N C.D L a → Hp C.F C.w0 O S w → YieldsV C o a w v

theorem uponIn_of_yields {o : Oper} {a : Act} {w : World} {v : Value} {next : Act → World → Prop} (hd : ∀ c, o.op ≠ .defer c) (h : YieldsV C o a w v) (hk : ∀ w', Grow w w' → next (a.put o.dst v) w') :
    o.wpIn (FR C.ro) 0 C.P a w next Q := by
  unfold YieldsV at h
  refine ⟨fun _ _ => trivial, ?_⟩
  have hs : o.semAt (FR C.ro).round a.eval = execOp a.eval o := Oper.semAt_eq _ _ _ hd
  rw [hs]
  generalize (execOp a.eval o).run C.P w = r at h
  cases r with
  | ok n w' =>
    cases n <;> simp only at h
    case value u => obtain ⟨rfl, rfl⟩ := h; exact hk _ (Below.refl _ _)
    case skip => obtain ⟨rfl, rfl⟩ := h; exact hk _ (Below.refl _ _)
    case enter f args =>
      obtain ⟨rfl, hc⟩ := h
      refine ⟨(fun h => by cases h), callsIn_FR.2 (hc.mono fun e w'' ⟨he, hg⟩ => ?_)⟩
      subst he
      exact hk _ hg
  | halt x w' => exact h.elim

theorem oj_step {ops : Array Oper} {o : Oper} {rest : List Oper} {v : Value} (hy : Yi C o L O S v) (hg : o.guard = none) {d : Nat} (hd : o.dst = some d) (hdN : Nat.blt d C.N = true) (k : OJ C ops Q rest ((d, v) :: L) O S) : OJ C ops Q (o :: rest) L O S := by
  intro a w hr hp
  have hdN' : d < C.N := by simpa [Nat.blt_eq] using hdN
  unfold wpListIn
  rw [if_pos (by simp [Region.wanted, hg])]
  refine uponIn_of_yields hy.1 (hy.2 a w hr hp) fun w' hg => ?_
  rw [hd]
  exact k _ w' (hr.put hdN' v) (hp.grow hg)

/-! ### Guarded operations: a run of them with one guard, whose last result alone is used -/
/-- The value of an operation under a guard: 'v' if the guard's number is as wanted. -/
def gd (g b : Bool) (v : Value) : Value := bif g == b then v else undef

/-- Each operation of the run is carried out, each under the guard (j, b) or under one of the run's own operations, and yields what is known; what they come to: 'K'. -/
def GJ (C : Cx) (ops : Array Oper) (O S : List Fact) : List Oper → Regs → (Regs → Prop) → Prop
  | [], L, K => K L
  | o :: rest, L, K => ∃ v d, o.dst = some d ∧ Nat.blt d C.N = true ∧
      (∀ a w, RegsOk C.N C.D L a → Hp C.F C.w0 O S w → (Region.wanted o (yielded ops a.tmps) = true ∧ (∀ c, o.op ≠ .defer c) ∧ YieldsV C o a w v) ∨ (Region.wanted o (yielded ops a.tmps) = false ∧ v = undef)) ∧
      GJ C ops O S rest ((d, v) :: L) K

theorem oj_of_gj {ops : Array Oper} (rest : List Oper) : ∀ (blk : List Oper) (L : Regs), GJ C ops O S blk L (fun L' => OJ C ops Q rest L' O S) → OJ C ops Q (blk ++ rest) L O S
  | [], L, h => h
  | o :: blk, L, h => by
    obtain ⟨v, d, hd, hdN, hs, hk⟩ := h
    intro a w hr hp
    have hdN' : d < C.N := by simpa [Nat.blt_eq] using hdN
    show wpListIn _ _ _ _ _ (o :: (blk ++ rest)) a w
    unfold wpListIn
    rcases hs a w hr hp with ⟨hw, hnd, hy⟩ | ⟨hw, rfl⟩
    · rw [if_pos hw]
      refine uponIn_of_yields hnd hy fun w' hg => ?_
      rw [hd]
      exact oj_of_gj rest blk _ hk _ w' (hr.put hdN' v) (hp.grow hg)
    · rw [if_neg (by rw [hw]; simp)]
      refine ⟨fun _ _ => trivial, ?_⟩
      rw [hd]
      exact oj_of_gj rest blk _ hk _ w (hr.put hdN' _) hp

theorem gj_mono {ops : Array Oper} {K K' : Regs → Prop} (hK : ∀ L, K L → K' L) : ∀ (blk : List Oper) (L : Regs), GJ C ops O S blk L K → GJ C ops O S blk L K'
  | [], _, h => hK _ h
  | _ :: blk, _, ⟨v, d, hd, hdN, hs, hk⟩ => ⟨v, d, hd, hdN, hs, gj_mono hK blk _ hk⟩

theorem gj_append {ops : Array Oper} {K : Regs → Prop} (rest : List Oper) : ∀ (blk : List Oper) (L : Regs), GJ C ops O S blk L (fun L' => GJ C ops O S rest L' K) → GJ C ops O S (blk ++ rest) L K
  | [], _, h => h
  | _ :: blk, _, ⟨v, d, hd, hdN, hs, hk⟩ => ⟨v, d, hd, hdN, hs, gj_append rest blk _ hk⟩

theorem gj_nil {ops : Array Oper} {K : Regs → Prop} (h : K L) : GJ C ops O S [] L K := h

theorem gj_step {ops : Array Oper} {o : Oper} {rest : List Oper} {K : Regs → Prop} {v : Value} (hy : Yi C o L O S v) (hg : o.guard = none) {d : Nat} (hd : o.dst = some d) (hdN : Nat.blt d C.N = true) (k : GJ C ops O S rest ((d, v) :: L) K) : GJ C ops O S (o :: rest) L K :=
  ⟨v, d, hd, hdN, fun a w hr hp => .inl ⟨by simp [Region.wanted, hg], hy.1, hy.2 a w hr hp⟩, k⟩

theorem wanted_of {ops : Array Oper} {o : Oper} {a : Act} {j dj : Nat} {b g : Bool} (hr : RegsOk C.N C.D L a) (ho : o.guard = some (j, b)) (hj : (ops[j]?).bind (·.dst) = some dj) (hl : look L dj = some (.bool g)) :
    Region.wanted o (yielded ops a.tmps) = (g == b) := by
  have := hr.look dj _ hl
  simp [Region.wanted, ho, yielded, hj, this]
theorem wanted_undef {ops : Array Oper} {o : Oper} {a : Act} {j dj : Nat} {b : Bool} (hr : RegsOk C.N C.D L a) (ho : o.guard = some (j, b)) (hj : (ops[j]?).bind (·.dst) = some dj) (hl : look L dj = some undef) :
    Region.wanted o (yielded ops a.tmps) = false := by
  have := hr.look dj _ hl
  simp [Region.wanted, ho, yielded, hj, this, undef]

/-- Under a guard that says yes. -/
theorem gj_yes {ops : Array Oper} {o : Oper} {rest : List Oper} {K : Regs → Prop} {v : Value} {j dj : Nat} {b : Bool} (ho : o.guard = some (j, b)) (hj : (ops[j]?).bind (·.dst) = some dj) (hl : look L dj = some (.bool b))
    (hy : Yi C o L O S v) {d : Nat} (hd : o.dst = some d) (hdN : Nat.blt d C.N = true) (k : GJ C ops O S rest ((d, v) :: L) K) : GJ C ops O S (o :: rest) L K :=
  ⟨v, d, hd, hdN, fun a w hr hp => .inl ⟨by rw [wanted_of hr ho hj hl]; simp, hy.1, hy.2 a w hr hp⟩, k⟩
/-- Under a guard that says no. -/
theorem gj_no {ops : Array Oper} {o : Oper} {rest : List Oper} {K : Regs → Prop} {j dj : Nat} {b g : Bool} (ho : o.guard = some (j, b)) (hj : (ops[j]?).bind (·.dst) = some dj) (hl : look L dj = some (.bool g)) (hne : (g == b) = false)
    {d : Nat} (hd : o.dst = some d) (hdN : Nat.blt d C.N = true) (k : GJ C ops O S rest ((d, undef) :: L) K) : GJ C ops O S (o :: rest) L K :=
  ⟨undef, d, hd, hdN, fun _ _ hr _ => .inr ⟨by rw [wanted_of hr ho hj hl]; exact hne, rfl⟩, k⟩
/-- Under a guard that was itself passed over. -/
theorem gj_undef {ops : Array Oper} {o : Oper} {rest : List Oper} {K : Regs → Prop} {j dj : Nat} {b : Bool} (ho : o.guard = some (j, b)) (hj : (ops[j]?).bind (·.dst) = some dj) (hl : look L dj = some undef)
    {d : Nat} (hd : o.dst = some d) (hdN : Nat.blt d C.N = true) (k : GJ C ops O S rest ((d, undef) :: L) K) : GJ C ops O S (o :: rest) L K :=
  ⟨undef, d, hd, hdN, fun _ _ hr _ => .inr ⟨wanted_undef hr ho hj hl, rfl⟩, k⟩

/-- A run of operations all of which are passed over: by the guard (j, b), whose slot dj holds 'g', or by a guard within the run, whose slot holds nothing. -/
def skips (ops : Array Oper) (N dj : Nat) (b : Bool) : List Oper → List Nat → Bool
  | [], _ => true
  | o :: rest, us =>
    match o.dst, o.guard with
    | some d, some (j, c) =>
      Nat.blt d N && !(Nat.beq d dj) &&
      (match (ops[j]?).bind (·.dst) with
       | some e => (Nat.beq e dj && (c == b)) || (us.contains e && !(Nat.beq e dj))
       | none => false) && skips ops N dj b rest (d :: us)
    | _, _ => false

theorem gj_skips {ops : Array Oper} {K : Regs → Prop} {dj : Nat} {b g : Bool} (hne : (g == b) = false) : ∀ (blk : List Oper) (us : List Nat) (L : Regs), skips ops C.N dj b blk us = true → look L dj = some (.bool g) → (∀ u ∈ us, look L u = some undef) →
    (∀ L' : Regs, look L' dj = some (.bool g) → (∀ t v, look L t = some v → (∀ o ∈ blk, o.dst ≠ some t) → look L' t = some v) → (∀ o ∈ blk, ∀ d, o.dst = some d → look L' d = some undef) → K L') → GJ C ops O S blk L K
  | [], _, L, _, hl, _, hk => hk L hl (fun _ _ h _ => h) (by simp)
  | o :: blk, us, L, hs, hl, hu, hk => by
    unfold skips at hs
    cases hd : o.dst with
    | none => simp [hd] at hs
    | some d =>
      cases hg : o.guard with
      | none => simp [hd, hg] at hs
      | some jc =>
        obtain ⟨j, c⟩ := jc
        simp only [hd, hg, Bool.and_eq_true] at hs
        obtain ⟨⟨⟨hdN, hdd⟩, hm⟩, hs'⟩ := hs
        have hdd' : d ≠ dj := by intro e; subst e; simp at hdd
        have hl' : look ((d, undef) :: L) dj = some (.bool g) := by rw [look_cons, if_neg hdd']; exact hl
        have hu' : ∀ u ∈ d :: us, look ((d, undef) :: L) u = some undef := by
          intro u hu0
          rw [look_cons]
          by_cases e : d = u
          · rw [if_pos e]
          · rw [if_neg e]
            rcases List.mem_cons.1 hu0 with h | h
            · exact absurd h.symm e
            · exact hu u h
        have hnext : GJ C ops O S blk ((d, undef) :: L) K := by
          refine gj_skips hne blk (d :: us) _ hs' hl' hu' fun L' h1 h2 h3 => ?_
          refine hk L' h1 (fun t v ht hno => h2 t v ?_ (fun o' ho' => hno o' (by simp [ho']))) (fun o' ho' d' hd' => ?_)
          · rw [look_cons, if_neg]
            · exact ht
            · intro e; subst e; exact hno o (by simp) hd
          · by_cases hin : ∃ o'' ∈ blk, o''.dst = some d'
            · obtain ⟨o'', ho'', hd''⟩ := hin
              exact h3 o'' ho'' d' hd''
            · rcases List.mem_cons.1 ho' with h | h
              · subst h
                rw [hd] at hd'
                simp only [Option.some.injEq] at hd'
                subst hd'
                exact h2 d undef (by rw [look_cons, if_pos rfl]) (fun o'' ho'' hd'' => hin ⟨o'', ho'', hd''⟩)
              · exact absurd ⟨o', h, hd'⟩ hin
        cases he : (ops[j]?).bind (·.dst) with
        | none => simp [he] at hm
        | some e =>
          simp only [he, Bool.or_eq_true, Bool.and_eq_true] at hm
          rcases hm with ⟨h1, h2⟩ | ⟨h1, h2⟩
          · have h1' : e = dj := Nat.eq_of_beq_eq_true h1
            have h2' : c = b := by simpa using h2
            subst h1' h2'
            exact gj_no hg he hl hne hd hdN hnext
          · exact gj_undef hg he (hu e (by simpa using h1)) hd hdN hnext

/-- THE RULE: a run of m operations under the guard 'g == b': what its last one, in slot d, comes to if they are carried out is 'v'; all else that they leave is forgotten. -/
theorem gj_guard {ops : Array Oper} {l : List Oper} {K : Regs → Prop} (m : Nat) {dj d : Nat} {b g : Bool} {v : Value} (hl : look L dj = some (.bool g)) (hs : skips ops C.N dj b (l.take m) [] = true) (hd : (l.take m).any (fun o => o.dst == some d) = true)
    (hy : g = b → GJ C ops O S (l.take m) ((dj, .bool b) :: L) (fun L' => look L' d = some v))
    (k : ∀ L' : Regs, (∀ t u, look L t = some u → (l.take m).all (fun o => o.dst != some t) = true → look L' t = some u) → look L' d = some (gd g b v) → GJ C ops O S (l.drop m) L' K) : GJ C ops O S l L K := by
  rw [← List.take_append_drop m l]
  refine gj_append _ _ _ ?_
  by_cases hgb : g = b
  · subst hgb
    have h1 := hy rfl
    -- the same regs, but for a repeated entry
    have hk : ∀ (blk : List Oper) (L1 L2 : Regs), (∀ t, look L1 t = look L2 t) → GJ C ops O S blk L1 (fun L' => look L' d = some v) →
        (∀ L', (∀ t u, look L2 t = some u → blk.all (fun o => o.dst != some t) = true → look L' t = some u) → look L' d = some v → GJ C ops O S (l.drop m) L' K) → GJ C ops O S blk L2 (fun L' => GJ C ops O S (l.drop m) L' K) := by
      intro blk
      induction blk with
      | nil => intro L1 L2 he h hk; exact hk L2 (fun _ _ h _ => h) (by rw [← he]; exact h)
      | cons o blk ih =>
        intro L1 L2 he h hk
        obtain ⟨v', d', hd', hdN', hs', h'⟩ := h
        refine ⟨v', d', hd', hdN', fun a w hr hp => hs' a w (hr.sub fun k v hkv => by rw [← he]; exact hkv) hp, ?_⟩
        refine ih ((d', v') :: L1) ((d', v') :: L2) (fun t => by rw [look_cons, look_cons, he]) h' fun L' h1 h2 => hk L' (fun t u ht hall => ?_) h2
        simp only [List.all_cons, Bool.and_eq_true] at hall
        refine h1 t u ?_ hall.2
        rw [look_cons, if_neg]
        · exact ht
        · intro e; subst e; simp [hd'] at hall
    refine hk _ _ _ (fun t => ?_) h1 fun L' ha hb => k L' ha (by simpa [gd] using hb)
    rw [look_cons]
    by_cases e : dj = t
    · subst e; rw [if_pos rfl, hl]
    · rw [if_neg e]
  · have hne : (g == b) = false := by simp [hgb]
    refine gj_skips hne _ [] L hs hl (by simp) fun L' h1 h2 h3 => k L' (fun t u ht hall => h2 t u ht (fun o ho he => ?_)) ?_
    · have := List.all_eq_true.1 hall o ho
      simp [he] at this
    · obtain ⟨o, ho, hod⟩ := List.any_eq_true.1 hd
      have hod' : o.dst = some d := by simpa using hod
      have h4 := h3 o ho d hod'
      simp [gd, hne, h4]
end Go.Sx
namespace Go.Sx
open Go.RowKit

section
variable {C : Cx} {L : Regs} {O S : List Fact} {dst : Option Tmp} {ty : TypeId} {pos : String} {aft : Array Edge} {gu : Option (Nat × Bool)}

theorem yi_val {o : Oper} {v : Value} (hnd : ∀ c, o.op ≠ .defer c) (h : ∀ a w, RegsOk C.N C.D L a → Hp C.F C.w0 O S w → (execOp a.eval o).run C.P w = .ok (.value v) w) : Yi C o L O S v :=
  ⟨hnd, fun a w hr hp => by unfold YieldsV; rw [h a w hr hp]; exact ⟨rfl, rfl⟩⟩

theorem y_move {x : Operand} {v : Value} (h : val L x = some v) : Yi C ⟨dst, .move x, ty, pos, aft, gu⟩ L O S v :=
  yi_val (by intro c h; cases h) fun a w hr _ => by simp [execOp, hr.val h]
theorem y_assign {x : Operand} {v : Value} (h : val L x = some v) : Yi C ⟨dst, .assign x, ty, pos, aft, gu⟩ L O S v :=
  yi_val (by intro c h; cases h) fun a w hr _ => by simp [execOp, hr.val h]

/-- 'a && b' -/
theorem y_and {c x y : Operand} {g b : Bool} (hc : val L c = some (.bool g)) (hx : val L x = some (gd g true (.bool b))) (hy : val L y = some (.bool false)) : Yi C ⟨dst, .pick c x y, ty, pos, aft, gu⟩ L O S (.bool (g && b)) :=
  yi_val (by intro c h; cases h) fun a w hr _ => by
    simp only [execOp, hr.val hc, hr.val hx, hr.val hy]
    cases g <;> simp [asBool, gd]
/-- 'a || b' -/
theorem y_or {c x y : Operand} {g b : Bool} (hc : val L c = some (.bool g)) (hx : val L x = some (.bool true)) (hy : val L y = some (gd g false (.bool b))) : Yi C ⟨dst, .pick c x y, ty, pos, aft, gu⟩ L O S (.bool (g || b)) :=
  yi_val (by intro c h; cases h) fun a w hr _ => by
    simp only [execOp, hr.val hc, hr.val hx, hr.val hy]
    cases g <;> simp [asBool, gd]

theorem y_not {t : TypeId} {x : Operand} {b : Bool} (h : val L x = some (.bool b)) : Yi C ⟨dst, .unOp .not t x, ty, pos, aft, gu⟩ L O S (.bool (!b)) :=
  yi_val (by intro c h; cases h) fun a w hr _ => by simp [execOp, hr.val h, Op.unary]
/-! Integers -/
section
variable {t t' : TypeId} {x y : Operand} {k : IntKind} {m n : Int}
theorem y_lss (hx : val L x = some (.int k m)) (hy : val L y = some (.int k n)) : Yi C ⟨dst, .binOp .lss t x y t', ty, pos, aft, gu⟩ L O S (.bool (decide (m < n))) :=
  yi_val (by intro c h; cases h) fun a w hr _ => by simp [execOp, hr.val hx, hr.val hy, eqGuard, binOp_lss]
theorem y_leq (hx : val L x = some (.int k m)) (hy : val L y = some (.int k n)) : Yi C ⟨dst, .binOp .leq t x y t', ty, pos, aft, gu⟩ L O S (.bool (decide (m ≤ n))) :=
  yi_val (by intro c h; cases h) fun a w hr _ => by simp [execOp, hr.val hx, hr.val hy, eqGuard, binOp_leq]
theorem y_gtr (hx : val L x = some (.int k m)) (hy : val L y = some (.int k n)) : Yi C ⟨dst, .binOp .gtr t x y t', ty, pos, aft, gu⟩ L O S (.bool (decide (n < m))) :=
  yi_val (by intro c h; cases h) fun a w hr _ => by simp [execOp, hr.val hx, hr.val hy, eqGuard, binOp_gtr]
theorem y_geq (hx : val L x = some (.int k m)) (hy : val L y = some (.int k n)) : Yi C ⟨dst, .binOp .geq t x y t', ty, pos, aft, gu⟩ L O S (.bool (decide (n ≤ m))) :=
  yi_val (by intro c h; cases h) fun a w hr _ => by simp [execOp, hr.val hx, hr.val hy, eqGuard, binOp_geq]
theorem y_eql (hx : val L x = some (.int k m)) (hy : val L y = some (.int k n)) : Yi C ⟨dst, .binOp .eql t x y t', ty, pos, aft, gu⟩ L O S (.bool (m == n)) :=
  yi_val (by intro c h; cases h) fun a w hr _ => by simp [execOp, hr.val hx, hr.val hy, eqGuard, binOp_eql]
theorem y_neq (hx : val L x = some (.int k m)) (hy : val L y = some (.int k n)) : Yi C ⟨dst, .binOp .neq t x y t', ty, pos, aft, gu⟩ L O S (.bool (m != n)) :=
  yi_val (by intro c h; cases h) fun a w hr _ => by simp [execOp, hr.val hx, hr.val hy, eqGuard, binOp_neq]

theorem y_addw (hx : val L x = some (.int k m)) (hy : val L y = some (.int k n)) : Yi C ⟨dst, .binOp .add t x y t', ty, pos, aft, gu⟩ L O S (.int k (k.wrap (m + n))) :=
  yi_val (by intro c h; cases h) fun a w hr _ => by simp [execOp, hr.val hx, hr.val hy, eqGuard, binOp_add, Op.intArith]
theorem y_subw (hx : val L x = some (.int k m)) (hy : val L y = some (.int k n)) : Yi C ⟨dst, .binOp .sub t x y t', ty, pos, aft, gu⟩ L O S (.int k (k.wrap (m - n))) :=
  yi_val (by intro c h; cases h) fun a w hr _ => by simp [execOp, hr.val hx, hr.val hy, eqGuard, binOp_sub, Op.intArith]
theorem y_mulw (hx : val L x = some (.int k m)) (hy : val L y = some (.int k n)) : Yi C ⟨dst, .binOp .mul t x y t', ty, pos, aft, gu⟩ L O S (.int k (k.wrap (m * n))) :=
  yi_val (by intro c h; cases h) fun a w hr _ => by simp [execOp, hr.val hx, hr.val hy, eqGuard, binOp_mul, Op.intArith]
theorem y_add (hx : val L x = some (.int .i64 m)) (hy : val L y = some (.int .i64 n)) (h : -9223372036854775808 ≤ m + n ∧ m + n ≤ 9223372036854775807) : Yi C ⟨dst, .binOp .add t x y t', ty, pos, aft, gu⟩ L O S (.int .i64 (m + n)) := by
  have := y_addw (C := C) (O := O) (S := S) (dst := dst) (t := t) (t' := t') (ty := ty) (pos := pos) (aft := aft) (gu := gu) hx hy
  rwa [IntWalk.i64_in _ h] at this
theorem y_sub (hx : val L x = some (.int .i64 m)) (hy : val L y = some (.int .i64 n)) (h : -9223372036854775808 ≤ m - n ∧ m - n ≤ 9223372036854775807) : Yi C ⟨dst, .binOp .sub t x y t', ty, pos, aft, gu⟩ L O S (.int .i64 (m - n)) := by
  have := y_subw (C := C) (O := O) (S := S) (dst := dst) (t := t) (t' := t') (ty := ty) (pos := pos) (aft := aft) (gu := gu) hx hy
  rwa [IntWalk.i64_in _ h] at this
theorem y_mul (hx : val L x = some (.int .i64 m)) (hy : val L y = some (.int .i64 n)) (h : -9223372036854775808 ≤ m * n ∧ m * n ≤ 9223372036854775807) : Yi C ⟨dst, .binOp .mul t x y t', ty, pos, aft, gu⟩ L O S (.int .i64 (m * n)) := by
  have := y_mulw (C := C) (O := O) (S := S) (dst := dst) (t := t) (t' := t') (ty := ty) (pos := pos) (aft := aft) (gu := gu) hx hy
  rwa [IntWalk.i64_in _ h] at this
theorem y_quow (hx : val L x = some (.int k m)) (hy : val L y = some (.int k n)) (hn : n ≠ 0) : Yi C ⟨dst, .binOp .quo t x y t', ty, pos, aft, gu⟩ L O S (.int k (k.wrap (m.tdiv n))) :=
  yi_val (by intro c h; cases h) fun a w hr _ => by simp [execOp, hr.val hx, hr.val hy, eqGuard, binOp_quo, Op.intDiv, hn]
theorem y_remw (hx : val L x = some (.int k m)) (hy : val L y = some (.int k n)) (hn : n ≠ 0) : Yi C ⟨dst, .binOp .rem t x y t', ty, pos, aft, gu⟩ L O S (.int k (m.tmod n)) :=
  yi_val (by intro c h; cases h) fun a w hr _ => by simp [execOp, hr.val hx, hr.val hy, eqGuard, binOp_rem, Op.intDiv, hn]
theorem y_quo (hx : val L x = some (.int .i64 m)) (hy : val L y = some (.int .i64 n)) (h : 0 ≤ m ∧ m ≤ 9223372036854775807 ∧ 1 ≤ n) : Yi C ⟨dst, .binOp .quo t x y t', ty, pos, aft, gu⟩ L O S (.int .i64 (m / n)) := by
  have := y_quow (C := C) (O := O) (S := S) (dst := dst) (t := t) (t' := t') (ty := ty) (pos := pos) (aft := aft) (gu := gu) hx hy (by omega)
  rwa [IntWalk.i64_quo _ _ h] at this
theorem y_rem (hx : val L x = some (.int .i64 m)) (hy : val L y = some (.int .i64 n)) (h : 0 ≤ m) (hn : n ≠ 0) : Yi C ⟨dst, .binOp .rem t x y t', ty, pos, aft, gu⟩ L O S (.int .i64 (m % n)) := by
  have := y_remw (C := C) (O := O) (S := S) (dst := dst) (t := t) (t' := t') (ty := ty) (pos := pos) (aft := aft) (gu := gu) hx hy hn
  rwa [Int.tmod_eq_emod_of_nonneg h] at this

theorem y_min {ts : Array TypeId} (hx : val L x = some (.int k m)) (hy : val L y = some (.int k n)) : Yi C ⟨dst, .call ⟨.builtin .min, #[x, y], ts⟩, ty, pos, aft, gu⟩ L O S (.int k (min m n)) :=
  yi_val (by intro c h; cases h) fun a w hr _ => by
    have e : (if n < m then n else m) = min m n := by omega
    simp [execOp, resolve, invoke, builtin, Builtin.min_, Builtin.min2, hr.val hx, hr.val hy, e]
theorem y_max {ts : Array TypeId} (hx : val L x = some (.int k m)) (hy : val L y = some (.int k n)) : Yi C ⟨dst, .call ⟨.builtin .max, #[x, y], ts⟩, ty, pos, aft, gu⟩ L O S (.int k (max m n)) :=
  yi_val (by intro c h; cases h) fun a w hr _ => by
    have e : (if m < n then n else m) = max m n := by omega
    simp [execOp, resolve, invoke, builtin, Builtin.max_, Builtin.max2, hr.val hx, hr.val hy, e]
/-- A conversion between integer types of one kind. -/
theorem y_conv {d : TypeDesc} {ka : IntKind} (hs : C.P.underlying t = some d) (hd : C.P.underlying t' = some (.int k)) (hx : val L x = some (.int ka m)) : Yi C ⟨dst, .convert t t' x, ty, pos, aft, gu⟩ L O S (.int k (k.wrap m)) :=
  yi_val (by intro c h; cases h) fun a w hr _ => by simp [execOp, hr.val hx, convert, run_underlying hs, run_underlying hd, Conv.intToInt]
end

/-! Bools, strings -/
section
variable {t t' : TypeId} {x y : Operand}
theorem y_eqlB {b c : Bool} (ht : C.P.underlying t = some .bool) (hx : val L x = some (.bool b)) (hy : val L y = some (.bool c)) : Yi C ⟨dst, .binOp .eql t x y t', ty, pos, aft, gu⟩ L O S (.bool (b == c)) :=
  yi_val (by intro c h; cases h) fun a w hr _ => by simp [execOp, hr.val hx, hr.val hy, eqGuard, binOp, Op.equal, Op.maxDepth, run_equalIn_bool w 9999 t _ _ ht]
theorem y_eqlS {s u : ByteArray} (hx : val L x = some (.string s)) (hy : val L y = some (.string u)) : Yi C ⟨dst, .binOp .eql t x y t', ty, pos, aft, gu⟩ L O S (.bool (s == u)) :=
  yi_val (by intro c h; cases h) fun a w hr _ => by simp [execOp, hr.val hx, hr.val hy, eqGuard, binOp, Op.stringOp, beq_toListBytes]
theorem y_lenA {ts e : TypeId} {A : Option Addr} {n c : Nat} (ht : C.P.underlying ts = some (.slice e)) (hx : val L x = some (.slice A n c)) : Yi C ⟨dst, .call ⟨.builtin .len, #[x], #[ts]⟩, ty, pos, aft, gu⟩ L O S (.int .i64 n) :=
  yi_val (by intro c h; cases h) fun a w hr _ => by simp [execOp, resolve, invoke, builtin, Builtin.len_, hr.val hx, run_underlying ht, goInt]
end

/-! Aggregates -/
section
variable {t : TypeId} {x : Operand}
theorem y_extract {vs : List Value} {i : Nat} {v : Value} (hx : val L x = some (.tuple vs.toArray)) (hi : vs[i]? = some v) : Yi C ⟨dst, .extract x i, ty, pos, aft, gu⟩ L O S v :=
  yi_val (by intro c h; cases h) fun a w hr _ => by simp [execOp, hr.val hx, Instr.extract, hi]

/-- What the program says of a field: its offset; its type's cells; whether these are an aggregate. -/
structure FieldIs (P : Program) (s : TypeId) (i : Nat) (off n : Nat) (agg : Bool) : Prop where
  ex : ∃ fs f, P.underlying s = some (.struct fs) ∧ fs[i]? = some f ∧ f.offset = off ∧ (∀ w, (sizeOf f.type).run P w = .ok n w) ∧ (∀ w, (isAgg f.type).run P w = .ok agg w) ∧ n ≠ 0

theorem y_faw {s i off n : Nat} {agg : Bool} {ad : Addr} (hf : FieldIs C.P s i off n agg) (hx : val L x = some (.pointer (some ad))) : Yi C ⟨dst, .fieldAddr s x i, ty, pos, aft, gu⟩ L O S (.pointer (some (ad.add off))) :=
  yi_val (by intro c h; cases h) fun a w hr _ => by
    obtain ⟨fs, f, hu, hi, rfl, hs, _, hn⟩ := hf.ex
    simp [execOp, hr.val hx, Instr.fieldAt, run_underlying hu, hi, Instr.sureAddr, fieldPlace, hs, hn]
theorem addr_add (b k off : Nat) : (⟨b, k, none⟩ : Addr).add off = ⟨b, k + off, none⟩ := by
  unfold Addr.add; split
  · subst_vars; rfl
  · rfl
/-- A field of what lies at a known place. -/
theorem y_fa {s i off n b k : Nat} {agg : Bool} (hf : FieldIs C.P s i off n agg) (hx : val L x = some (.pointer (some ⟨b, k, none⟩))) : Yi C ⟨dst, .fieldAddr s x i, ty, pos, aft, gu⟩ L O S (.pointer (some ⟨b, k + off, none⟩)) := by
  have := y_faw (dst := dst) (ty := ty) (pos := pos) (aft := aft) (gu := gu) (O := O) (S := S) hf hx
  rwa [addr_add] at this
/-- The place behind the head of a slice. -/
def at_ (A : Option Addr) (n : Nat) : Addr := (A.getD ⟨0, 0, none⟩).add n
theorem at_add (A : Option Addr) (n m : Nat) : (at_ A n).add m = at_ A (n + m) := by
  unfold at_ Addr.add
  by_cases hi : n = 0 <;> by_cases hj : m = 0 <;> simp [hi, hj, Nat.add_assoc]
theorem y_faE {s i off n k : Nat} {agg : Bool} {A : Option Addr} (hf : FieldIs C.P s i off n agg) (hx : val L x = some (.pointer (some (at_ A k)))) : Yi C ⟨dst, .fieldAddr s x i, ty, pos, aft, gu⟩ L O S (.pointer (some (at_ A (k + off)))) := by
  have := y_faw (dst := dst) (ty := ty) (pos := pos) (aft := aft) (gu := gu) (O := O) (S := S) hf hx
  rwa [at_add] at this
/-- The element's place in a slice: its type has 'n' cells. -/
theorem y_ix {s e n N c : Nat} {A : Option Addr} {y : Operand} {i : Int} {k : IntKind} (hu : C.P.underlying s = some (.slice e)) (hs : ∀ w, (sizeOf e).run C.P w = .ok n w) (hx : val L x = some (.slice A N c)) (hy : val L y = some (.int k i)) (hi : 0 ≤ i ∧ i < N)
    (hA : A ≠ none) : Yi C ⟨dst, .indexAddr s x y, ty, pos, aft, gu⟩ L O S (.pointer (some (at_ A (i.toNat * n)))) :=
  yi_val (by intro c h; cases h) fun a w hr _ => by
    cases A with
    | none => exact absurd rfl hA
    | some ad => simp [execOp, hr.val hx, hr.val hy, Instr.indexAt, asIntOf, run_underlying hu, hi, hs, at_]
end
end

/-! ### Lists' parts, by instances: 'n' of the cells from the k-th on; some of them set -/
class Tk (n k : Nat) (cs : List Value) (vs : outParam (List Value)) : Prop where
  eq : ∀ j, j < n → cs[k + j]? = vs[j]?
  len : vs.length = n
instance Tk.nil (cs : List Value) : Tk 0 0 cs [] := ⟨by simp, rfl⟩
instance Tk.take (n : Nat) (c : Value) (cs vs : List Value) [h : Tk n 0 cs vs] : Tk (n + 1) 0 (c :: cs) (c :: vs) := ⟨fun j hj => by
  cases j with
  | zero => simp
  | succ j => have := h.eq j (by omega); simpa using this, by simp [h.len]⟩
instance Tk.drop (n k : Nat) (c : Value) (cs vs : List Value) [h : Tk n k cs vs] : Tk n (k + 1) (c :: cs) vs := ⟨fun j hj => by
  have := h.eq j hj
  rw [← this, show k + 1 + j = (k + j) + 1 by omega]
  simp, h.len⟩

class SetC (k : Nat) (vs cs : List Value) (cs' : outParam (List Value)) : Prop where
  eq : ∀ j, cs'[j]? = if k ≤ j ∧ j < k + vs.length then vs[j - k]? else cs[j]?
  len : cs'.length = cs.length
  fit : k + vs.length ≤ cs.length
instance SetC.nil (cs : List Value) : SetC 0 [] cs cs := ⟨fun j => by rw [if_neg (by simp)], rfl, by simp⟩
instance SetC.put (v c : Value) (vs cs cs' : List Value) [h : SetC 0 vs cs cs'] : SetC 0 (v :: vs) (c :: cs) (v :: cs') := ⟨fun j => by
  cases j with
  | zero => simp
  | succ j => have := h.eq j; simp only [List.getElem?_cons_succ, this]; simp, by simp [h.len], by have := h.fit; simp at this ⊢; omega⟩
instance SetC.skip (k : Nat) (c : Value) (vs cs cs' : List Value) [h : SetC k vs cs cs'] : SetC (k + 1) vs (c :: cs) (c :: cs') := ⟨fun j => by
  cases j with
  | zero => rw [if_neg (by omega)]; simp
  | succ j =>
    have := h.eq j
    simp only [List.getElem?_cons_succ, this]
    by_cases hj : k ≤ j ∧ j < k + vs.length
    · rw [if_pos hj, if_pos (by omega)]; congr 1; omega
    · rw [if_neg hj, if_neg (by omega)], by simp [h.len], by have := h.fit; simp; omega⟩

/-! ### A block of the function's own, known whole -/
def ownB (b : Nat) (ob : Obj) : Fact := ⟨fun i => i = b, fun w => w.heap[b]? = some ob, fun h hP => (h b rfl).trans hP⟩
/-- A block of cells. -/
abbrev cellsB (e : TypeId) (cs : List Value) : Obj := .cells cs.toArray e (0, 0)

class HasB (O : List Fact) (b : Nat) (ob : outParam Obj) : Prop where
  mem : ownB b ob ∈ O
instance (priority := 900) HasB.tail (f : Fact) (O : List Fact) (b : Nat) (ob : Obj) [h : HasB O b ob] : HasB (f :: O) b ob := ⟨List.mem_cons_of_mem _ h.mem⟩
instance (priority := 1000) HasB.head (O : List Fact) (b : Nat) (ob : Obj) : HasB (ownB b ob :: O) b ob := ⟨List.mem_cons_self ..⟩

class UpdB (O : List Fact) (b : Nat) (ob : outParam Obj) (ob' : Obj) (O' : outParam (List Fact)) : Prop where
  rep : Rep O (ownB b ob) (ownB b ob') O'
instance (priority := 900) UpdB.tail (f : Fact) (O O' : List Fact) (b : Nat) (ob ob' : Obj) [h : UpdB O b ob ob' O'] : UpdB (f :: O) b ob ob' (f :: O') := ⟨.tail _ _ _ _ _ h.rep⟩
instance (priority := 1000) UpdB.head (O : List Fact) (b : Nat) (ob ob' : Obj) : UpdB (ownB b ob :: O) b ob ob' (ownB b ob' :: O) := ⟨.head _ _ _⟩

section
variable {C : Cx} {L : Regs} {O S : List Fact} {dst : Option Tmp} {ty : TypeId} {pos : String} {aft : Array Edge} {gu : Option (Nat × Bool)} {t : TypeId} {x : Operand}

theorem Hp.hasB {F : Nat → Prop} {w0 w : World} (hp : Hp F w0 O S w) {b : Nat} {ob : Obj} (h : ownB b ob ∈ O) : w.heap[b]? = some ob := (hp.own _ h).1

theorem y_load1 {b k e : Nat} {cs : List Value} {v : Value} [h : HasB O b (cellsB e cs)] (ha : ∀ w, (isAgg t).run C.P w = .ok false w) (hx : val L x = some (.pointer (some ⟨b, k, none⟩))) (hv : cs[k]? = some v) :
    Yi C ⟨dst, .load t x, ty, pos, aft, gu⟩ L O S v :=
  yi_val (by intro c h; cases h) fun a w hr hp => by
    have hc : w.cell? ⟨b, k, none⟩ = some v := by rw [cell_of_row w b k cs.toArray e (0, 0) (hp.hasB h.mem)]; simpa using hv
    simp [execOp, hr.val hx, Instr.loadAt, Instr.sureAddr, loadVar, ha, hc]
theorem y_loadN {b k e n : Nat} {cs vs : List Value} [h : HasB O b (cellsB e cs)] (ha : ∀ w, (isAgg t).run C.P w = .ok true w) (hs : ∀ w, (sizeOf t).run C.P w = .ok n w) (hx : val L x = some (.pointer (some ⟨b, k, none⟩))) [hv : Tk n k cs vs] :
    Yi C ⟨dst, .load t x, ty, pos, aft, gu⟩ L O S (.agg vs.toArray) :=
  yi_val (by intro c h; cases h) fun a w hr hp => by
    have hl : (loadCells ⟨b, k, none⟩ n).run C.P w = .ok vs.toArray w := by
      rw [← hv.len]
      refine run_loadCells_list (P := C.P) w ⟨b, k, none⟩ vs fun j v hj => ?_
      have hjn : j < n := by have := (List.getElem?_eq_some_iff.1 hj).1; rw [hv.len] at this; exact this
      rw [addr_add, cell_of_row w b (k + j) cs.toArray e (0, 0) (hp.hasB h.mem)]
      simpa [hv.eq j hjn] using hj
    simp [execOp, hr.val hx, Instr.loadAt, Instr.sureAddr, loadVar, ha, hs, hl]
end
end Go.Sx
namespace Go.Sx
open Go.RowKit

/-! ### Slices whose elements are plain cells -/
section
variable {α : Type}

theorem flatMap_get (enc : α → List Value) (sz : Nat) (he : ∀ x, (enc x).length = sz) : ∀ (xs : List α) (i : Nat) (x : α) (j : Nat), xs[i]? = some x → j < sz → (xs.flatMap enc)[i * sz + j]? = (enc x)[j]?
  | [], i, x, j, h, _ => by simp at h
  | y :: ys, 0, x, j, h, hj => by
    simp at h; subst h
    rw [List.flatMap_cons, Nat.zero_mul, Nat.zero_add, List.getElem?_append_left (by rw [he]; exact hj)]
  | y :: ys, i + 1, x, j, h, hj => by
    rw [List.flatMap_cons, List.getElem?_append_right (by rw [he, Nat.succ_mul]; omega), he, Nat.succ_mul]
    rw [show i * sz + sz + j - sz = i * sz + j by omega]
    exact flatMap_get enc sz he ys i x j (by simpa using h) hj
theorem flatMap_len (enc : α → List Value) (sz : Nat) (he : ∀ x, (enc x).length = sz) (xs : List α) : (xs.flatMap enc).length = xs.length * sz := by
  induction xs with
  | nil => simp
  | cons x xs ih => rw [List.flatMap_cons, List.length_append, he, ih, List.length_cons, Nat.succ_mul]; omega

theorem block_add (a : Addr) (n : Nat) : (a.add n).block = a.block := by unfold Addr.add; split <;> rfl
theorem add_add (a : Addr) (i j : Nat) : (a.add i).add j = a.add (i + j) := by
  unfold Addr.add
  by_cases hi : i = 0 <;> by_cases hj : j = 0 <;> simp [hi, hj, Nat.add_assoc]

/-- The slice at A reads as the list xs; all that it reaches lies in 'fp'. -/
def sl (fp : Nat → Prop) (sz : Nat) (enc : α → List Value) (A : Option Addr) (xs : List α) : Fact where
  fp := fp
  P := fun w => xs.length ≤ maxLen ∧ (xs ≠ [] → ∃ a, A = some a ∧ fp a.block ∧ ∀ i x j u, xs[i]? = some x → (enc x)[j]? = some u → w.cell? (a.add (i * sz + j)) = some u)
  stab := fun {w w'} h ⟨h0, h1⟩ => ⟨h0, fun hne => by
    obtain ⟨a, ha, hf, hc⟩ := h1 hne
    refine ⟨a, ha, hf, fun i x j u hx hu => ?_⟩
    rw [← hc i x j u hx hu]
    exact World.cell?_of_block (h _ (by rw [block_add]; exact hf))⟩

/-- The same of a slice that the function owns: it may append to it. -/
def ow (e : TypeId) (sz : Nat) (enc : α → List Value) (A : Option Addr) (c : Nat) (xs : List α) : Fact where
  fp := fun b => (Value.slice A xs.length c).ownBlock = some b
  P := fun w => w.ownsRow 0 e sz (.slice A xs.length c) xs.length (xs.flatMap enc)
  stab := fun {w w'} h h1 => by
    refine ⟨h1.1, ?_⟩
    rcases h1.2 with h2 | ⟨g, cap, cur, hv, h3, h4, h5⟩
    · exact .inl h2
    · refine .inr ⟨g, cap, cur, hv, h3, ?_, h5⟩
      rw [h g (by rw [hv]; rfl)]; exact h4

class HasSl (S : List Fact) (A : Option Addr) {α : outParam Type} (fp : outParam (Nat → Prop)) (sz : outParam Nat) (enc : outParam (α → List Value)) (xs : outParam (List α)) : Prop where
  mem : sl fp sz enc A xs ∈ S
instance (priority := 900) HasSl.tail (f : Fact) (S : List Fact) (A : Option Addr) (fp : Nat → Prop) (sz : Nat) (enc : α → List Value) (xs : List α) [h : HasSl S A fp sz enc xs] : HasSl (f :: S) A fp sz enc xs := ⟨List.mem_cons_of_mem _ h.mem⟩
instance (priority := 1000) HasSl.head (S : List Fact) (A : Option Addr) (fp : Nat → Prop) (sz : Nat) (enc : α → List Value) (xs : List α) : HasSl (sl fp sz enc A xs :: S) A fp sz enc xs := ⟨List.mem_cons_self ..⟩

class HasOw (O : List Fact) (A : Option Addr) {α : outParam Type} (e : outParam TypeId) (sz : outParam Nat) (enc : outParam (α → List Value)) (c : outParam Nat) (xs : outParam (List α)) : Prop where
  mem : ow e sz enc A c xs ∈ O
instance (priority := 900) HasOw.tail (f : Fact) (O : List Fact) (A : Option Addr) (e : TypeId) (sz : Nat) (enc : α → List Value) (c : Nat) (xs : List α) [h : HasOw O A e sz enc c xs] : HasOw (f :: O) A e sz enc c xs := ⟨List.mem_cons_of_mem _ h.mem⟩
instance (priority := 1000) HasOw.head (O : List Fact) (A : Option Addr) (e : TypeId) (sz : Nat) (enc : α → List Value) (c : Nat) (xs : List α) : HasOw (ow e sz enc A c xs :: O) A e sz enc c xs := ⟨List.mem_cons_self ..⟩

class UpdOw (O : List Fact) (A : Option Addr) {α : outParam Type} (e : outParam TypeId) (sz : outParam Nat) (enc : outParam (α → List Value)) (c : outParam Nat) (xs : outParam (List α)) (f' : Fact) (O' : outParam (List Fact)) : Prop where
  rep : Rep O (ow e sz enc A c xs) f' O'
instance (priority := 900) UpdOw.tail (f : Fact) (O O' : List Fact) (A : Option Addr) (e : TypeId) (sz : Nat) (enc : α → List Value) (c : Nat) (xs : List α) (f' : Fact) [h : UpdOw O A e sz enc c xs f' O'] : UpdOw (f :: O) A e sz enc c xs f' (f :: O') := ⟨.tail _ _ _ _ _ h.rep⟩
instance (priority := 1000) UpdOw.head (O : List Fact) (A : Option Addr) (e : TypeId) (sz : Nat) (enc : α → List Value) (c : Nat) (xs : List α) (f' : Fact) : UpdOw (ow e sz enc A c xs :: O) A e sz enc c xs f' (f' :: O) := ⟨.head _ _ _⟩

/-- The cells of a part of a slice, whoever owns it. -/
def Reads (C : Cx) (O S : List Fact) (sz : Nat) (enc : α → List Value) (A : Option Addr) (xs : List α) : Prop :=
  ∀ w, Hp C.F C.w0 O S w → xs ≠ [] → ∃ a, A = some a ∧ ∀ i x j u, xs[i]? = some x → (enc x)[j]? = some u → w.cell? (a.add (i * sz + j)) = some u

variable {C : Cx} {L : Regs} {O S : List Fact}
theorem reads_sl {fp : Nat → Prop} {sz : Nat} {enc : α → List Value} {A : Option Addr} {xs : List α} [h : HasSl S A fp sz enc xs] : Reads C O S sz enc A xs := fun w hp hne => by
  obtain ⟨a, ha, _, hc⟩ := (hp.shared _ h.mem).1.2 hne
  exact ⟨a, ha, hc⟩
theorem ow_cells {e : TypeId} {sz : Nat} {enc : α → List Value} {A : Option Addr} {c : Nat} {xs : List α} {w : World} (h : (ow e sz enc A c xs).P w) (he : ∀ x, (enc x).length = sz) (hne : xs ≠ []) :
    ∃ a, A = some a ∧ ∀ i x j u, xs[i]? = some x → (enc x)[j]? = some u → w.cell? (a.add (i * sz + j)) = some u := by
  have hP : w.ownsRow 0 e sz (.slice A xs.length c) xs.length (xs.flatMap enc) := h
  rcases hP.2 with ⟨h2, h3⟩ | ⟨g, cap, cur, hv, h3, h4, h5⟩
  · exact absurd (List.eq_nil_of_length_eq_zero h3) hne
  · have hA : A = some ⟨g, 0, none⟩ := by injection hv
    refine ⟨⟨g, 0, none⟩, hA, fun i x j u hx hu => ?_⟩
    have hj : j < sz := by have := (List.getElem?_eq_some_iff.1 hu).1; rw [he] at this; exact this
    refine hP.cells (g := g) (by rw [hA]; rfl) (i * sz + j) u ?_
    rw [flatMap_get enc sz he xs i x j hx hj]; exact hu
theorem reads_ow {e : TypeId} {sz : Nat} {enc : α → List Value} {A : Option Addr} {c : Nat} {xs : List α} [h : HasOw O A e sz enc c xs] (he : ∀ x, (enc x).length = sz) : Reads C O S sz enc A xs := fun _ hp hne =>
  ow_cells (hp.own _ h.mem).1 he hne

theorem at_some (a : Addr) (n : Nat) : at_ (some a) n = a.add n := rfl

variable {dst : Option Tmp} {ty : TypeId} {pos : String} {aft : Array Edge} {gu : Option (Nat × Bool)} {t : TypeId} {x : Operand}
/-- One cell of an element. -/
theorem y_ld1 {sz i j : Nat} {enc : α → List Value} {A : Option Addr} {xs : List α} {u : α} {v : Value} (hr0 : Reads C O S sz enc A xs) (ha : ∀ w, (isAgg t).run C.P w = .ok false w) (hx : val L x = some (.pointer (some (at_ A (i * sz + j))))) (hu : xs[i]? = some u) (hv : (enc u)[j]? = some v) :
    Yi C ⟨dst, .load t x, ty, pos, aft, gu⟩ L O S v :=
  yi_val (by intro c h; cases h) fun a w hr hp => by
    obtain ⟨ad, rfl, hc⟩ := hr0 w hp (by rintro rfl; simp at hu)
    have hc := hc i u j v hu hv
    simp [execOp, hr.val hx, Instr.loadAt, Instr.sureAddr, loadVar, ha, at_some, hc]
theorem y_ld0 {sz i : Nat} {enc : α → List Value} {A : Option Addr} {xs : List α} {u : α} {v : Value} (hr0 : Reads C O S sz enc A xs) (ha : ∀ w, (isAgg t).run C.P w = .ok false w) (hx : val L x = some (.pointer (some (at_ A (i * sz))))) (hu : xs[i]? = some u) (hv : (enc u)[0]? = some v) :
    Yi C ⟨dst, .load t x, ty, pos, aft, gu⟩ L O S v := y_ld1 (j := 0) hr0 ha hx hu hv
/-- A whole element, or a part of it that is a struct. -/
theorem y_ldN {sz i j n : Nat} {enc : α → List Value} {A : Option Addr} {xs : List α} {u : α} {vs : List Value} (hr0 : Reads C O S sz enc A xs) (ha : ∀ w, (isAgg t).run C.P w = .ok true w) (hs : ∀ w, (sizeOf t).run C.P w = .ok n w) (hx : val L x = some (.pointer (some (at_ A (i * sz + j))))) (hu : xs[i]? = some u)
    (hv : Tk n j (enc u) vs) : Yi C ⟨dst, .load t x, ty, pos, aft, gu⟩ L O S (.agg vs.toArray) :=
  yi_val (by intro c h; cases h) fun a w hr hp => by
    obtain ⟨ad, rfl, hc⟩ := hr0 w hp (by rintro rfl; simp at hu)
    have hl : (loadCells (ad.add (i * sz + j)) n).run C.P w = .ok vs.toArray w := by
      rw [← hv.len]
      refine run_loadCells_list (P := C.P) w _ vs fun l v hl => ?_
      have hln : l < n := by have := (List.getElem?_eq_some_iff.1 hl).1; rw [hv.len] at this; exact this
      rw [add_add, Nat.add_assoc]
      exact hc i u (j + l) v hu (by rw [hv.eq l hln]; exact hl)
    simp [execOp, hr.val hx, Instr.loadAt, Instr.sureAddr, loadVar, ha, hs, at_some, hl]
theorem y_ldW {sz i : Nat} {enc : α → List Value} {A : Option Addr} {xs : List α} {u : α} (hr0 : Reads C O S sz enc A xs) (ha : ∀ w, (isAgg t).run C.P w = .ok true w) (hs : ∀ w, (sizeOf t).run C.P w = .ok sz w) (hx : val L x = some (.pointer (some (at_ A (i * sz))))) (hu : xs[i]? = some u)
    (he : ∀ x, (enc x).length = sz) : Yi C ⟨dst, .load t x, ty, pos, aft, gu⟩ L O S (.agg (enc u).toArray) :=
  y_ldN (j := 0) hr0 ha hs hx hu ⟨fun j _ => by rw [Nat.zero_add], he u⟩
end

/-! ### New blocks -/
section
variable {C : Cx} {Q : Exit → Act → World → Prop} {ops : Array Oper} {rest : List Oper} {L : Regs} {O S : List Fact} {ty : TypeId} {pos : String} {aft : Array Edge} {d : Nat}

/-- An operation whose run is known, that lays one new block. -/
theorem oj_new {o : Oper} (hnd : ∀ c, o.op ≠ .defer c) (hg : o.guard = none) (hd : o.dst = some d) (hdN : Nat.blt d C.N = true) (ob : Obj) (v : Nat → Value)
    (hrun : ∀ a w, RegsOk C.N C.D L a → Hp C.F C.w0 O S w → (execOp a.eval o).run C.P w = .ok (.value (v w.heap.size)) (w.alloc ob))
    (k : ∀ b, OJ C ops Q rest ((d, v b) :: L) (ownB b ob :: O) S) : OJ C ops Q (o :: rest) L O S := by
  intro a w hr hp
  have hdN' : d < C.N := by simpa [Nat.blt_eq] using hdN
  unfold wpListIn
  rw [if_pos (by simp [Region.wanted, hg])]
  refine ⟨fun _ _ => trivial, ?_⟩
  have hs : o.semAt (FR C.ro).round a.eval = execOp a.eval o := Oper.semAt_eq _ _ _ hnd
  rw [hs, hrun a w hr hp]
  show wpListIn _ _ _ _ _ _ _ _
  rw [hd]
  refine k w.heap.size _ _ (hr.put hdN' _) ?_
  exact hp.addO ((Below.refl _ _).alloc (Nat.le_refl _) _) _ (heap_alloc_new w ob) (fun b hb => by
    have hb' : b = w.heap.size := hb
    subst hb'
    simp)

theorem oj_box {e : TypeId} {x : Operand} {v : Value} {cs : List Value} (hv : val L x = some v) (hc : v.cells = cs.toArray) (hdN : Nat.blt d C.N = true)
    (k : ∀ b, OJ C ops Q rest ((d, .pointer (some ⟨b, 0, none⟩)) :: L) (ownB b (cellsB e cs) :: O) S) : OJ C ops Q (⟨some d, .box e x, ty, pos, aft, none⟩ :: rest) L O S :=
  oj_new (by intro c h; cases h) rfl rfl hdN (cellsB e cs) (fun b => .pointer (some ⟨b, 0, none⟩)) (fun a w hr _ => by
    simp [execOp, hr.val hv, Instr.box, newVar, newRow, hc]) k

theorem oj_alloc {e : TypeId} {z : Value} {cs : List Value} (hz : ∀ w, (zeroValue e).run C.P w = .ok z w) (hc : z.cells = cs.toArray) (hdN : Nat.blt d C.N = true)
    (k : ∀ b, OJ C ops Q rest ((d, .pointer (some ⟨b, 0, none⟩)) :: L) (ownB b (cellsB e cs) :: O) S) : OJ C ops Q (⟨some d, .alloc e, ty, pos, aft, none⟩ :: rest) L O S :=
  oj_new (by intro c h; cases h) rfl rfl hdN (cellsB e cs) (fun b => .pointer (some ⟨b, 0, none⟩)) (fun a w hr _ => by
    simp [execOp, Instr.alloc, newVar, newRow, hz, hc]) k

/-- Values of operands, reckoned. -/
def valsO (L : Regs) : List Operand → Option (List Value)
  | [] => some []
  | x :: r => match val L x, valsO L r with
    | some v, some vs => some (v :: vs)
    | _, _ => none
theorem valsO_eval {N : Nat} {D : List Deferred} {a : Act} (hr : RegsOk N D L a) : ∀ (xs : List Operand) (vs : List Value), valsO L xs = some vs → xs.map a.eval = vs
  | [], vs, h => by simp [valsO] at h; simp [← h]
  | x :: r, vs, h => by
    unfold valsO at h
    split at h
    · rename_i v vs' hv hvs
      simp at h
      rw [← h, List.map_cons, hr.val hv, valsO_eval hr r vs' hvs]
    · cases h
def partsO (L : Regs) : List (Nat × Operand) → Option (List (Nat × Value))
  | [] => some []
  | p :: r => match val L p.2, partsO L r with
    | some v, some vs => some ((p.1, v) :: vs)
    | _, _ => none
theorem partsO_eval {N : Nat} {D : List Deferred} {a : Act} (hr : RegsOk N D L a) : ∀ (xs : List (Nat × Operand)) (vs : List (Nat × Value)), partsO L xs = some vs → xs.map (fun p => (p.1, a.eval p.2)) = vs
  | [], vs, h => by simp [partsO] at h; simp [← h]
  | x :: r, vs, h => by
    unfold partsO at h
    split at h
    · rename_i v vs' hv hvs
      simp at h
      rw [← h, List.map_cons, hr.val hv, partsO_eval hr r vs' hvs]
    · cases h

/-- The struct type: where its fields lie, and its zero's cells. -/
structure StructIs (P : Program) (t : TypeId) (pl : List (Nat × Nat)) (z : List Value) : Prop where
  ex : ∃ fs, P.underlying t = some (.struct fs) ∧ (∀ w, (fs.mapM fun (f : Field) => (do pure (f.offset, ← sizeOf f.type) : Sem (Nat × Nat))).run P w = .ok pl.toArray w) ∧ (∀ w, (zeroValue t).run P w = .ok (.agg z.toArray) w)

theorem y_build {dst : Option Tmp} {gu : Option (Nat × Bool)} {t : TypeId} {parts : List (Nat × Operand)} {pl : List (Nat × Nat)} {z cs : List Value} {pv : List (Nat × Value)} (hS : StructIs C.P t pl z) (hv : partsO L parts = some pv) (hf : Instr.fill (fun i => pl[i]?) z.toArray pv = some cs.toArray) :
    Yi C ⟨dst, .build t parts.toArray, ty, pos, aft, gu⟩ L O S (.agg cs.toArray) :=
  yi_val (by intro c h; cases h) fun a w hr _ => by
    obtain ⟨fs, hu, hm, hz⟩ := hS.ex
    have e := partsO_eval hr parts pv hv
    have e2 : (parts.toArray.map fun p => (p.1, a.eval p.2)).toList = pv := by simpa using e
    have hfill : Instr.fill (fun i => pl.toArray[i]?) z.toArray (parts.toArray.map fun p => (p.1, a.eval p.2)).toList = some cs.toArray := by
      rw [e2]; simpa using hf
    simp only [execOp, Instr.build, Sem.run_bind, hz, Result.andThen_ok, run_underlying hu, hm, Value.cells]
    rw [hfill]
    rfl

theorem oj_buildSlice {t e : TypeId} {n size : Nat} {parts : List (Nat × Operand)} {cs : List Value} {z : Value} {pv : List (Nat × Value)} (zs : List Value) (hu : C.P.underlying t = some (.slice e)) (hs : ∀ w, (sizeOf e).run C.P w = .ok size w) (hz : ∀ w, (zeroValue e).run C.P w = .ok z w)
    (hlt : Nat.ble (n * size) 16777216 = true) (hv : partsO L parts = some pv)
    (hzz : (Array.range (n * size)).map ((if n * size = 0 then #[] else z.cells)[· % (if n * size = 0 then #[] else z.cells).size]!) = zs.toArray)
    (hf : Instr.fill (fun i => some (i * size, size)) zs.toArray pv = some cs.toArray) (hdN : Nat.blt d C.N = true)
    (k : ∀ b, OJ C ops Q rest ((d, .slice (some ⟨b, 0, none⟩) n n) :: L) (ownB b (cellsB e cs) :: O) S) : OJ C ops Q (⟨some d, .buildSlice t n parts.toArray, ty, pos, aft, none⟩ :: rest) L O S :=
  oj_new (by intro c h; cases h) rfl rfl hdN (cellsB e cs) (fun b => .slice (some ⟨b, 0, none⟩) n n) (fun a w hr _ => by
    have e := partsO_eval hr parts pv hv
    have e2 : (parts.toArray.map fun p => (p.1, a.eval p.2)).toList = pv := by simpa using e
    have hlt' : ¬ n * size > 2 ^ 24 := by
      have := Nat.le_of_ble_eq_true hlt
      omega
    rw [← hzz] at hf
    simp only [execOp, Instr.buildSlice, Sem.run_bind, run_underlying hu, hs, Result.andThen_ok, if_neg hlt']
    by_cases h0 : n * size = 0
    · simp only [h0, if_true] at hf
      simp only [h0, if_true, pure_bind]
      rw [e2, hf]
      simp [newRow]
    · simp only [h0, if_false] at hf
      simp only [h0, if_false, Sem.run_bind, hz, Sem.run_pure, Result.andThen_ok]
      rw [e2, hf]
      simp [newRow]) k

/-! ### A store into a block of the function's own -/
theorem run_storeCells (P : Program) : ∀ (vs : List Value) (w : World) (b k i : Nat) (e : TypeId) (cs : List Value), w.heap[b]? = some (.cells cs.toArray e (0, 0)) → (vs.all fun v => v.oneCell') = true → k + i + vs.length ≤ cs.length →
    ∃ (w' : World) (cs' : List Value), (storeCells ⟨b, k, none⟩ vs i).run P w = .ok () w' ∧ w'.heap[b]? = some (.cells cs'.toArray e (0, 0)) ∧ (∀ j, cs'[j]? = if k + i ≤ j ∧ j < k + i + vs.length then vs[j - (k + i)]? else cs[j]?) ∧ cs'.length = cs.length ∧
      (∀ c, c ≠ b → w'.heap[c]? = w.heap[c]?) ∧ w'.os = w.os ∧ w'.tape = w.tape ∧ w'.output = w.output ∧ w'.heap.size = w.heap.size
  | [], w, b, k, i, e, cs, hb, _, _ => ⟨w, cs, rfl, hb, fun j => by rw [if_neg (by simp)], rfl, fun _ _ => rfl, rfl, rfl, rfl, rfl⟩
  | v :: vs, w, b, k, i, e, cs, hb, hone, hlen => by
    simp only [List.all_cons, Bool.and_eq_true] at hone
    simp only [List.length_cons] at hlen
    have hcell : w.cell? ⟨b, k + i, none⟩ = cs[k + i]? := by rw [cell_of_row w b (k + i) cs.toArray e (0, 0) hb]; simp
    have hsome : cs[k + i]? = some (cs[k + i]'(by omega)) := List.getElem?_eq_getElem (by omega)
    have hfz : w.frozen? ⟨b, k + i, none⟩ = false := frozen_of_row w b (k + i) cs.toArray e hb
    have hstore : (store ((⟨b, k, none⟩ : Addr).add i) v).run P w = .ok () (w.setCell ⟨b, k + i, none⟩ v) := by
      rw [addr_add, run_store P w _ v _ hone.1, hcell, hsome]
      simp [hfz]
    have hb' : (w.setCell ⟨b, k + i, none⟩ v).heap[b]? = some (.cells (cs.set (k + i) v).toArray e (0, 0)) := by
      have := heap_setCell_same w b (k + i) cs.toArray e v hb
      simpa using this
    obtain ⟨w', cs', h1, h2, h3, h4, h5, h6, h7, h8, h9⟩ := run_storeCells P vs _ b k (i + 1) e (cs.set (k + i) v) hb' hone.2 (by simp; omega)
    refine ⟨w', cs', ?_, h2, fun j => ?_, by simpa using h4, fun c hc => ?_, h6, h7, h8, by simpa using h9⟩
    · simp only [storeCells, Sem.run_bind, hstore, Result.andThen_ok]
      exact h1
    · rw [h3 j]
      simp only [List.length_cons, List.getElem?_set]
      by_cases h0 : j = k + i
      · subst h0
        rw [if_neg (by omega), if_pos rfl, if_pos (by omega), if_pos (by omega)]
        simp
      · by_cases hj : k + (i + 1) ≤ j ∧ j < k + (i + 1) + vs.length
        · rw [if_pos hj, if_pos (by omega)]
          have : j - (k + i) = (j - (k + (i + 1))) + 1 := by omega
          rw [this]; simp
        · rw [if_neg hj, if_neg (by omega), if_neg (by omega)]
    · rw [h5 c hc]
      exact heap_setCell_other w _ c v hc

theorem oj_store {t b k e n : Nat} {x y : Operand} {v : Value} {vs cs cs' : List Value} {O' : List Fact} (hx : val L x = some (.pointer (some ⟨b, k, none⟩))) (hy : val L y = some v) (hc : v.cells = vs.toArray) (hone : (vs.all fun v => v.oneCell') = true) (hs : ∀ w, (sizeOf t).run C.P w = .ok n w) (hn : vs.length = n)
    [hb : HasB O b (cellsB e cs)] [hset : SetC k vs cs cs'] [hu : UpdB O b (cellsB e cs) (cellsB e cs') O'] (k' : OJ C ops Q rest L O' S) : OJ C ops Q (⟨none, .store t x y, ty, pos, aft, none⟩ :: rest) L O S := by
  intro a w hr hp
  unfold wpListIn
  rw [if_pos (by simp [Region.wanted])]
  refine ⟨fun _ _ => trivial, ?_⟩
  rw [Oper.semAt_eq _ _ _ (by intro c h; cases h)]
  obtain ⟨w', cs2, h1, h2, h3, h4, h5, h6, h7, h8, h9⟩ := run_storeCells C.P vs w b k 0 e cs (hp.hasB hb.mem) hone (by have := hset.fit; omega)
  have hcs : cs2 = cs' := by
    refine List.ext_getElem? fun j => ?_
    rw [h3 j, hset.eq j]
    simp
  subst hcs
  have hrun : (execOp a.eval ⟨none, .store t x y, ty, pos, aft, none⟩).run C.P w = .ok .skip w' := by
    simp [execOp, hr.val hx, hr.val hy, Instr.storeAt, Instr.sureAddr, storeVar, hc, hs, hn, h1]
  rw [hrun]
  show wpListIn _ _ _ _ _ _ _ _
  refine k' _ w' hr ?_
  refine hp.write hu.rep h6 h7 h8 (by omega) (fun c _ hc => h5 c hc) h2 (fun c hc => ⟨?_, .inl hc⟩)
  have hc' : c = b := hc
  subst hc'
  rw [h9]
  exact ((hp.own _ hb.mem).2 c rfl).1

/-! ### append to a slice of the function's own -/
/-- What the program says of an element's type. -/
structure ElemIs (P : Program) (t e : TypeId) (sz bytes : Nat) : Prop where
  ex : ∃ i z, P.underlying t = some (.slice e) ∧ P.info? e = some i ∧ i.zero = some z ∧ i.size = sz ∧ i.bytes = bytes ∧ z.cells.size = sz ∧ 0 < sz

theorem ow_nil {α : Type} (e : TypeId) (sz : Nat) (enc : α → List Value) (w : World) : (ow e sz enc none 0 []).P w := World.ownsRow_nil w 0 e sz

theorem cj_ownNil {α : Type} {c : Code} (e : TypeId) (sz : Nat) (enc : α → List Value) (h : CJ C c Q L (ow e sz enc none 0 [] :: O) S) : CJ C c Q L O S := fun a w hr hp =>
  h a w hr (hp.addO (Below.refl _ _) _ (ow_nil e sz enc w) (fun b hb => by cases hb))

theorem oj_append {α : Type} {t e : TypeId} {sz bytes c m c2 : Nat} {s x : Operand} {enc : α → List Value} {A A2 : Option Addr} {xs ys : List α} {O' : Option Addr → Nat → List Fact} (hE : ElemIs C.P t e sz bytes) (he : ∀ x, (enc x).length = sz) (hone : ∀ x, ∀ v ∈ enc x, v.oneCell' = true)
    (hs : val L s = some (.slice A xs.length c)) (hx : val L x = some (.slice A2 m c2)) (hm : m = ys.length) (hrd : Reads C O S sz enc A2 ys)
    (hlen : xs.length + ys.length ≤ maxLen) (hby : (xs.length + ys.length) * bytes ≤ 140737488355328) (hdN : Nat.blt d C.N = true)
    [hu : ∀ A' c', UpdOw O A e sz enc c xs (ow e sz enc A' c' (xs ++ ys)) (O' A' c')]
    (k : ∀ A' c', OJ C ops Q rest ((d, .slice A' (xs ++ ys).length c') :: L) (O' A' c') S) : OJ C ops Q (⟨some d, .call ⟨.builtin .append, #[s, x], #[t, t]⟩, ty, pos, aft, none⟩ :: rest) L O S := by
  intro a w hr hp
  subst hm
  have hdN' : d < C.N := by simpa [Nat.blt_eq] using hdN
  unfold wpListIn
  rw [if_pos (by simp [Region.wanted])]
  refine ⟨fun _ _ => trivial, ?_⟩
  rw [Oper.semAt_eq _ _ _ (by intro c h; cases h)]
  obtain ⟨i, z, hut, hi, hz, hsz, hbt, hzs, hpos⟩ := hE.ex
  have hmem := (hu none 0).rep.mem
  have hown : w.ownsRow 0 e sz (.slice A xs.length c) xs.length (xs.flatMap enc) := (hp.own _ hmem).1
  have key : ∃ v' w', (Builtin.append_ #[t, t] ty #[.slice A xs.length c, .slice A2 ys.length c2]).run C.P w = .ok v' w' ∧ w'.ownsRow 0 e sz v' (xs.length + ys.length) (xs.flatMap enc ++ ys.flatMap enc) ∧ w.grownBy w' (Value.slice A xs.length c).ownBlock ∧
      (v'.ownBlock = (Value.slice A xs.length c).ownBlock ∨ v'.ownBlock = some w.heap.size) := by
    by_cases hne : ys = []
    · subst hne
      refine ⟨.slice A xs.length c, w, ?_, by simpa using hown, World.grownBy.refl w _, .inl rfl⟩
      rcases hown.2 with ⟨h2, h3⟩ | ⟨g, cap, cur, hv, _, _, hnc, _⟩
      · rw [h2]
        cases A2 <;> simp [Builtin.append_, run_underlying hut, sizeOf, typeInfo, hi, Builtin.lenOf, Builtin.firstCells, loadCells, loadCellsFrom]
      · rw [hv]
        cases A2 <;> simp [Builtin.append_, run_underlying hut, sizeOf, typeInfo, hi, Builtin.lenOf, Builtin.firstCells, hnc, loadCells, loadCellsFrom, storeCells]
    · obtain ⟨ad, rfl, hc⟩ := hrd w hp hne
      have hnews : ∀ j u, (ys.flatMap enc)[j]? = some u → w.cell? (ad.add j) = some u := by
        intro j u hj
        have hjl := (List.getElem?_eq_some_iff.1 hj).1
        rw [flatMap_len enc sz he] at hjl
        have hq : j / sz < ys.length := Nat.div_lt_of_lt_mul (by rw [Nat.mul_comm]; exact hjl)
        have hy : ys[j / sz]? = some (ys[j / sz]'hq) := List.getElem?_eq_getElem hq
        have hmod : j % sz < sz := Nat.mod_lt _ hpos
        have hjj : j / sz * sz + j % sz = j := by rw [Nat.mul_comm]; exact Nat.div_add_mod j sz
        have := flatMap_get enc sz he ys (j / sz) _ (j % sz) hy hmod
        rw [hjj, hj] at this
        have h2 := hc (j / sz) _ (j % sz) u hy this.symm
        rwa [hjj] at h2
      have h1 : ∀ u ∈ ys.flatMap enc, u.oneCell' = true := by
        intro u hu
        obtain ⟨y, _, hy⟩ := List.mem_flatMap.1 hu
        exact hone y u hy
      obtain ⟨v', w', h3, h4, h5, _, h7⟩ := run_append_own_at (P := C.P) w 0 t ty e i z sz bytes hut hi hz hsz hbt hzs hpos _ _ _ hown ad ys.length c2 (ys.flatMap enc) (flatMap_len enc sz he ys) hnews h1 hlen hby (Nat.zero_le _)
      exact ⟨v', w', h3, h4, h5, h7⟩
  obtain ⟨v', w', hrun, hown', hgb, hblk⟩ := key
  have hrun' : (execOp a.eval ⟨some d, .call ⟨.builtin .append, #[s, x], #[t, t]⟩, ty, pos, aft, none⟩).run C.P w = .ok (.value v') w' := by
    simp [execOp, resolve, invoke, builtin, hr.val hs, hr.val hx, hrun]
  rw [hrun']
  show wpListIn _ _ _ _ _ _ _ _
  have hform : ∃ A' c', v' = .slice A' (xs ++ ys).length c' := by
    rcases hown'.2 with ⟨h2, h3⟩ | ⟨g, cap, cur, hv, _⟩
    · exact ⟨none, 0, by rw [h2, List.length_append, h3]⟩
    · exact ⟨_, _, by rw [hv, List.length_append]⟩
  obtain ⟨A', c', rfl⟩ := hform
  refine k A' c' _ w' (hr.put hdN' _) ?_
  have hlt := hown'.lt
  refine hp.write (hu A' c').rep hgb.os hgb.tape hgb.output hgb.size (fun b hb hnb => hgb.block b hb (fun e => hnb e.symm)) ?_ (fun b hb => ?_)
  · show w'.ownsRow 0 e sz _ _ _
    rw [List.flatMap_append, List.length_append] at *
    exact hown'
  · have hb' : (Value.slice A' (xs ++ ys).length c').ownBlock = some b := hb
    refine ⟨(hlt b hb').2, ?_⟩
    rcases hblk with h | h
    · exact .inl (h.symm.trans hb')
    · rw [hb'] at h; injection h with h; exact .inr (by omega)

/-! ### Calls -/
section
variable {f : FuncId} {xs : List Operand} {vs : List Value} {ats : Array TypeId}
theorem run_call {a : Act} (hr : RegsOk C.N C.D L a) (hf : ∀ args w, (callFunc f args).run C.P w = .ok (.enter f args) w) (hv : valsO L xs = some vs) (dst : Option Tmp) (gu : Option (Nat × Bool)) (w : World) :
    (execOp a.eval ⟨dst, .call ⟨.value (.func f), xs.toArray, ats⟩, ty, pos, aft, gu⟩).run C.P w = .ok (.enter f vs.toArray) w := by
  rw [execOp_call_go, hf]
  have := valsO_eval hr xs vs hv
  simp [← this]

/-- A call that hands back one value and turns nothing. -/
theorem y_call {dst : Option Tmp} {gu : Option (Nat × Bool)} {v : Value} (hf : ∀ args w, (callFunc f args).run C.P w = .ok (.enter f args) w) (hv : valsO L xs = some vs)
    (hc : ∀ w, Hp C.F C.w0 O S w → Calls C.P f vs.toArray w (fun e w' => e = .returned v ∧ Grow w w')) : Yi C ⟨dst, .call ⟨.value (.func f), xs.toArray, ats⟩, ty, pos, aft, gu⟩ L O S v :=
  ⟨(by intro c h; cases h), fun a w hr hp => by
    unfold YieldsV
    rw [run_call hr hf hv]
    exact ⟨rfl, hc w hp⟩⟩

/-- A call whose result is one of a family; it may lay new blocks, of which something is known. -/
theorem oj_call {X : Type} (enc : X → Value) (Ox : X → List Fact) (Sx : X → List Fact) (hf : ∀ args w, (callFunc f args).run C.P w = .ok (.enter f args) w) (hv : valsO L xs = some vs)
    (hc : ∀ w, Hp C.F C.w0 O S w → Calls C.P f vs.toArray w (fun e w' => ∃ x, e = .returned (enc x) ∧ Grow w w' ∧ (∀ g ∈ Ox x, g.P w' ∧ ∀ b, g.fp b → w.heap.size ≤ b ∧ b < w'.heap.size) ∧ (Ox x).Pairwise (fun f g => ∀ b, f.fp b → ¬ g.fp b) ∧
      (∀ g ∈ Sx x, g.P w' ∧ ∀ b, g.fp b → w.heap.size ≤ b ∧ b < w'.heap.size ∧ ∀ o ∈ Ox x, ¬ o.fp b))) (hdN : Nat.blt d C.N = true)
    (k : ∀ x, OJ C ops Q rest ((d, enc x) :: L) (Ox x ++ O) (Sx x ++ S)) : OJ C ops Q (⟨some d, .call ⟨.value (.func f), xs.toArray, ats⟩, ty, pos, aft, none⟩ :: rest) L O S := by
  intro a w hr hp
  have hdN' : d < C.N := by simpa [Nat.blt_eq] using hdN
  unfold wpListIn
  rw [if_pos (by simp [Region.wanted])]
  refine ⟨fun _ _ => trivial, ?_⟩
  rw [Oper.semAt_eq _ _ _ (by intro c h; cases h), run_call hr hf hv]
  refine ⟨fun h => (by cases h), callsIn_FR.2 ((hc w hp).mono fun e w' hx => ?_)⟩
  obtain ⟨x, rfl, hg, hO, hpw, hS⟩ := hx
  refine k x _ w' (hr.put hdN' _) ?_
  have h1 := hp.grow hg
  refine ⟨h1.os, h1.tape, h1.output, h1.size, h1.fr, fun g hg' => ?_, ?_, fun g hg' => ?_⟩
  · rcases List.mem_append.1 hg' with h | h
    · refine ⟨(hO g h).1, fun b hb => ⟨((hO g h).2 b hb).2, fun hF => ?_⟩⟩
      have h2 := (hp.fr b hF).1
      have h3 := ((hO g h).2 b hb).1
      have h4 := hp.size
      omega
    · exact h1.own g h
  · refine List.pairwise_append.2 ⟨hpw, h1.apart, fun o ho o' ho' b hb hb' => ?_⟩
    have h2 := ((hO o ho).2 b hb).1
    have h3 := ((hp.own o' ho').2 b hb').1
    omega
  · rcases List.mem_append.1 hg' with h | h
    · refine ⟨(hS g h).1, fun b hb => ((hS g h).2 b hb).2.1, fun o ho b hb hb' => ?_⟩
      rcases List.mem_append.1 ho with ho | ho
      · exact ((hS g h).2 b hb).2.2 o ho hb'
      · have h2 := ((hS g h).2 b hb).1
        have h3 := ((hp.own o ho).2 b hb').1
        omega
    · refine ⟨(h1.shared g h).1, (h1.shared g h).2.1, fun o ho b hb hb' => ?_⟩
      rcases List.mem_append.1 ho with ho | ho
      · have h2 := ((hO o ho).2 b hb').1
        have h3 := (hp.shared g h).2.1 b hb
        omega
      · exact (h1.shared g h).2.2 o ho b hb hb'

/-- A call that may turn the blocks of one exclusive assertion. -/
structure Mut (f : Fact) (w w' : World) : Prop where
  os : w'.os = w.os
  tape : w'.tape = w.tape
  output : w'.output = w.output
  size : w.heap.size ≤ w'.heap.size
  same : ∀ b, b < w.heap.size → ¬ f.fp b → w'.heap[b]? = w.heap[b]?

end
end
end Go.Sx
namespace Go.Sx
open Go.RowKit

/-- The check by reckoning: each temporary is written once; whoever looks at one that is written here stands in order with its writer; edges lead back. -/
def waits (o : Oper) (j : Nat) : Bool := o.after.any fun e => Region.binds .any e && e.on == j
def looksO (ops : Array Oper) (o : Oper) : List Tmp :=
  (o.op.operands.toList.filterMap fun | .tmp t => some t | _ => none) ++
  (match o.guard with
   | some (g, _) => ((ops[g]?).bind (·.dst)).toList
   | none => [])
def isSelect : Op → Bool
  | .select .. => true
  | _ => false
def orderOkAt (ops : Array Oper) (n i : Nat) (o : Oper) : Bool :=
  !isSelect o.op && (o.after.all fun e => !Region.binds .any e || Nat.blt e.on i) &&
  (List.range n).all fun j => match (ops[j]?).bind (·.dst) with
    | none => false
    | some d => (!(o.dst == some d) || Nat.beq i j) && (!((looksO ops o).contains d) || (if Nat.blt j i then waits o j else if Nat.blt i j then (ops[j]?).any (waits · i) else false))
def orderOk (l : List Oper) : Bool := (l.zipIdx).all fun p => orderOkAt l.toArray l.length p.2 p.1

theorem orderOk_at {l : List Oper} (h : orderOk l = true) {i : Nat} {o : Oper} (hi : l[i]? = some o) : orderOkAt l.toArray l.length i o = true := by
  have := List.all_eq_true.1 h (o, i) (by rw [List.mem_zipIdx_iff_getElem?]; exact hi)
  exact this

section
variable {C : Cx} {O S : List Fact} {ops : Array Oper}

/-- What the i-th operation yields, given what the ones before it have yielded. -/
def Steps1 (C : Cx) (ops : Array Oper) (O S : List Fact) (o : Oper) (L : Regs) (v : Value) : Prop :=
  ∀ a w, RegsOk C.N C.D L a → Hp C.F C.w0 O S w → (Region.wanted o (yielded ops a.tmps) = true ∧ (∀ c, o.op ≠ .defer c) ∧ YieldsV C o a w v) ∨ (Region.wanted o (yielded ops a.tmps) = false ∧ v = undef)

def regsAfter : List Oper → List Value → Regs → Regs
  | o :: l, v :: vs, L => regsAfter l vs (match o.dst with | some d => (d, v) :: L | none => L)
  | _, _, L => L

theorem gj_values {K : Regs → Prop} : ∀ (l : List Oper) (L : Regs), GJ C ops O S l L K → ∃ vs : List Value, vs.length = l.length ∧ (∀ i o, l[i]? = some o → ∃ v d, vs[i]? = some v ∧ o.dst = some d ∧ d < C.N ∧ Steps1 C ops O S o (regsAfter (l.take i) (vs.take i) L) v) ∧ K (regsAfter l vs L)
  | [], L, h => ⟨[], rfl, fun i o h => by simp at h, h⟩
  | o :: l, L, ⟨v, d, hd, hdN, hs, hk⟩ => by
    obtain ⟨vs, h1, h2, h3⟩ := gj_values l _ hk
    refine ⟨v :: vs, by simp [h1], fun i o' hi => ?_, ?_⟩
    · cases i with
      | zero =>
        simp at hi; subst hi
        exact ⟨v, d, rfl, hd, by simpa [Nat.blt_eq] using hdN, hs⟩
      | succ i =>
        obtain ⟨v', d', h4, h5, h6, h7⟩ := h2 i o' (by simpa using hi)
        refine ⟨v', d', by simpa using h4, h5, h6, ?_⟩
        simpa [regsAfter, hd] using h7
    · simpa [regsAfter, hd] using h3

/-- The act after the first i operations of the text. -/
def actAfter : List Oper → List Value → Act → Act
  | o :: l, v :: vs, a => actAfter l vs (a.put o.dst v)
  | _, _, a => a

theorem actAfter_ok {N : Nat} {D : List Deferred} : ∀ (l : List Oper) (vs : List Value) (L : Regs) (a : Act), (∀ o ∈ l, ∃ d, o.dst = some d ∧ d < N) → RegsOk N D L a → RegsOk N D (regsAfter l vs L) (actAfter l vs a)
  | [], vs, L, a, _, h => by simpa [regsAfter, actAfter] using h
  | o :: l, [], L, a, _, h => by simpa [regsAfter, actAfter] using h
  | o :: l, v :: vs, L, a, hd, h => by
    obtain ⟨d, h1, h2⟩ := hd o (by simp)
    simp only [regsAfter, actAfter, h1]
    exact actAfter_ok l vs _ _ (fun o' ho' => hd o' (by simp [ho'])) (h.put h2 v)

theorem actAfter_not : ∀ (l : List Oper) (vs : List Value) (a : Act) (t : Nat), (∀ o ∈ l, o.dst ≠ some t) → (actAfter l vs a).tmps[t]? = a.tmps[t]?
  | [], vs, a, t, _ => by simp [actAfter]
  | o :: l, [], a, t, _ => by simp [actAfter]
  | o :: l, v :: vs, a, t, h => by
    simp only [actAfter]
    rw [actAfter_not l vs _ t (fun o' ho' => h o' (by simp [ho']))]
    have := h o (by simp)
    cases hd : o.dst with
    | none => simp [Act.put]
    | some d =>
      simp only [Act.put, Array.getElem?_setIfInBounds]
      rw [if_neg]
      intro e; subst e; exact this hd

theorem actAfter_get : ∀ (l : List Oper) (vs : List Value) (a : Act) (i : Nat) (o : Oper) (v : Value) (d : Nat), l[i]? = some o → vs[i]? = some v → o.dst = some d → d < a.tmps.size → (∀ j o', l[j]? = some o' → o'.dst = some d → j = i) → (actAfter l vs a).tmps[d]? = some v
  | [], vs, a, i, o, v, d, h, _, _, _, _ => by simp at h
  | o0 :: l, [], a, i, o, v, d, _, h, _, _, _ => by simp at h
  | o0 :: l, v0 :: vs, a, 0, o, v, d, h, hv, hd, hs, hu => by
    simp at h hv; subst h hv
    simp only [actAfter]
    rw [actAfter_not l vs _ d (fun o' ho' hd' => by
      obtain ⟨j, hj⟩ := List.getElem?_of_mem ho'
      have := hu (j + 1) o' (by simpa using hj) hd'
      omega)]
    simp [Act.put, hd, hs]
  | o0 :: l, v0 :: vs, a, i + 1, o, v, d, h, hv, hd, hs, hu => by
    simp only [actAfter]
    refine actAfter_get l vs _ i o v d (by simpa using h) (by simpa using hv) hd ?_ (fun j o' hj hd' => ?_)
    · cases o0.dst <;> simp [Act.put, hs]
    · have := hu (j + 1) o' (by simpa using hj) hd'; omega

theorem count_lt (p p' : Nat → Bool) : ∀ (l : List Nat), (∀ x ∈ l, p' x = true → p x = true) → ∀ i ∈ l, p i = true → p' i = false → (l.filter p').length < (l.filter p).length
  | [], _, i, hi, _, _ => by simp at hi
  | x :: l, h, i, hi, hp, hp' => by
    have hle : ∀ (l : List Nat), (∀ x ∈ l, p' x = true → p x = true) → (l.filter p').length ≤ (l.filter p).length := by
      intro l
      induction l with
      | nil => intro _; simp
      | cons y l ih =>
        intro h
        have := ih (fun z hz => h z (by simp [hz]))
        by_cases hy : p' y = true
        · have := h y (by simp) hy
          simp [hy, this]; omega
        · by_cases hy2 : p y = true
          · simp [hy, hy2]; omega
          · simp [hy, hy2]; omega
    rcases List.mem_cons.1 hi with e | hi
    · subst e
      have := hle l (fun z hz => h z (by simp [hz]))
      simp [hp, hp']; omega
    · have ih := count_lt p p' l (fun z hz => h z (by simp [hz])) i hi hp hp'
      by_cases hx : p' x = true
      · have := h x (by simp) hx
        simp [hx, this]; omega
      · by_cases hx2 : p x = true
        · simp [hx, hx2]; omega
        · simp [hx, hx2]; omega

/-- While the region is on its way, in whatever order. -/
structure Mid (C : Cx) (l : List Oper) (vs : List Value) (O S : List Fact) (a0 : Act) (listed : Array Bool) (a : Act) (w : World) : Prop where
  sz : listed.size = l.length
  defers : a.defers = C.D
  size : a.tmps.size = C.N
  hp : Hp C.F C.w0 O S w
  closed : ∀ (j : Nat) (o : Oper), l[j]? = some o → listed.getD j false = true → ∀ e ∈ o.after, Region.binds .any e = true → listed.getD e.on false = true
  done : ∀ (j : Nat) (o : Oper) (d : Nat) (v : Value), l[j]? = some o → vs[j]? = some v → o.dst = some d → listed.getD j false = true → a.tmps[d]? = some v
  rest : ∀ t : Nat, (∀ (j : Nat) (o : Oper), l[j]? = some o → o.dst = some t → listed.getD j false = false) → a.tmps[t]? = a0.tmps[t]?

theorem getD_set {listed : Array Bool} {i j : Nat} (hi : i < listed.size) : (listed.setIfInBounds i true).getD j false = if i = j then true else listed.getD j false := by
  simp only [Array.getD_eq_getD_getElem?, Array.getElem?_setIfInBounds]
  by_cases h : i = j
  · subst h; simp [hi]
  · simp [h]

theorem getD_setT {listed : Array Bool} {i j : Nat} (hi : i < listed.size) : (listed.setIfInBounds i true).getD j true = if i = j then true else listed.getD j true := by
  simp only [Array.getD_eq_getD_getElem?, Array.getElem?_setIfInBounds]
  by_cases h : i = j
  · subst h; simp [hi]
  · simp [h]

theorem draw_any {l : List Oper} {vs : List Value} {L : Regs} {Q : Exit → Act → World → Prop} {a0 : Act} (hok : orderOk l = true) (h0 : RegsOk C.N C.D L a0)
    (hst : ∀ i o, l[i]? = some o → ∃ v d, vs[i]? = some v ∧ o.dst = some d ∧ d < C.N ∧ Steps1 C l.toArray O S o (regsAfter (l.take i) (vs.take i) L) v)
    (hK : ∀ a w, RegsOk C.N C.D (regsAfter l vs L) a → Hp C.F C.w0 O S w → Q .normal a w) :
    ∀ (fuel : Nat) (listed : Array Bool) (a : Act) (w : World), ((List.range l.length).filter fun i => !listed.getD i true).length ≤ fuel → Mid C l vs O S a0 listed a w → wpAnyIn (FR C.ro) 0 C.P .any l.toArray Q fuel listed a w := by
  have hdist : ∀ (i j : Nat) (o o' : Oper) (d : Nat), l[i]? = some o → l[j]? = some o' → o.dst = some d → o'.dst = some d → i = j := by
    intro i j o o' d hi hj hd hd'
    have := orderOk_at hok hi
    simp only [orderOkAt, Bool.and_eq_true] at this
    have hjl : j < l.length := (List.getElem?_eq_some_iff.1 hj).1
    have h2 := List.all_eq_true.1 this.2 j (List.mem_range.2 hjl)
    have hb : (l.toArray[j]?).bind (·.dst) = some d := by simp [hj, hd']
    simp only [hb, Bool.and_eq_true] at h2
    have h3 := h2.1
    simp only [hd, beq_self_eq_true, Bool.not_true, Bool.false_or] at h3
    exact Nat.eq_of_beq_eq_true h3
  have hget : ∀ {listed : Array Bool}, listed.size = l.length → ∀ i, i < l.length → listed.getD i true = listed.getD i false := by
    intro listed hsz i hi
    simp [Array.getD_eq_getD_getElem?, Array.getElem?_eq_getElem (show i < listed.size by omega)]
  -- when nothing is left
  have hend : ∀ (listed : Array Bool) (a : Act) (w : World), Mid C l vs O S a0 listed a w → (∀ i, i < l.length → listed.getD i false = true) → Q .normal a w := by
    intro listed a w hm hall
    refine hK a w ⟨hm.defers, hm.size, fun t v hv => ?_⟩ hm.hp
    have hA := actAfter_ok l vs L a0 (fun o ho => by
      obtain ⟨i, hi⟩ := List.getElem?_of_mem ho
      obtain ⟨_, d, _, hd, hdN, _⟩ := hst i o hi
      exact ⟨d, hd, hdN⟩) h0
    have h1 := hA.look t v hv
    rw [← h1]
    by_cases hx : ∃ (j : Nat) (o : Oper), l[j]? = some o ∧ o.dst = some t
    · obtain ⟨j, o, hj, hd⟩ := hx
      obtain ⟨u, d, hu, hd', hdN, _⟩ := hst j o hj
      rw [hd] at hd'; injection hd' with hd'; subst hd'
      rw [hm.done j o t u hj hu hd (hall j (List.getElem?_eq_some_iff.1 hj).1)]
      exact (actAfter_get l vs a0 j o u t hj hu hd (by rw [h0.size]; exact hdN) (fun j' o' hj' hd' => hdist j' j o' o t hj' hj hd' hd)).symm
    · have hx' : ∀ (j : Nat) (o : Oper), l[j]? = some o → o.dst ≠ some t := fun j o hj hd => hx ⟨j, o, hj, hd⟩
      rw [hm.rest t (fun j o hj hd => absurd hd (hx' j o hj)), actAfter_not l vs a0 t (fun o ho => by
        obtain ⟨j, hj⟩ := List.getElem?_of_mem ho
        exact hx' j o hj)]
  -- if some are left, one may come up
  have hready : ∀ (listed : Array Bool), listed.size = l.length → Region.ready .any l.toArray listed = [] → ∀ i, i < l.length → listed.getD i false = true := by
    intro listed hsz hr i
    induction i using Nat.strongRecOn with
    | _ i ih =>
      intro hi
      rcases hb : listed.getD i false with _ | _
      · exfalso
        have hmem : i ∈ Region.ready .any l.toArray listed := by
          refine mem_ready.2 ⟨by rw [hget hsz i hi]; exact hb, l[i], by simp [hi], fun e he hbd => ?_⟩
          have := orderOk_at hok (List.getElem?_eq_getElem hi)
          simp only [orderOkAt, Bool.and_eq_true] at this
          have h2 := Array.all_eq_true'.1 this.1.2 e he
          simp only [hbd, Bool.not_true, Bool.false_or] at h2
          have h3 : e.on < i := by simpa [Nat.blt_eq] using h2
          exact ih e.on h3 (by omega)
        rw [hr] at hmem; cases hmem
      · rfl
  intro fuel
  induction fuel with
  | zero =>
    intro listed a w hc hm
    have hnone : ∀ i, i < l.length → listed.getD i false = true := by
      intro i hi
      rcases hb : listed.getD i false with _ | _
      · exfalso
        have : i ∈ (List.range l.length).filter fun i => !listed.getD i true := by
          simp [List.mem_filter, hi]
          have := hget hm.sz i hi
          rw [hb] at this
          simpa [Array.getD_eq_getD_getElem?] using this
        have h2 := List.length_pos_of_mem this
        omega
      · rfl
    refine ⟨?_, hend listed a w hm hnone⟩
    rcases hr : Region.ready .any l.toArray listed with _ | ⟨x, xs⟩
    · rfl
    · exfalso
      have hx : x ∈ Region.ready .any l.toArray listed := by rw [hr]; simp
      obtain ⟨h1, o, ho, _⟩ := mem_ready.1 hx
      have hxl : x < l.length := by
        have : l[x]? = some o := by simpa using ho
        exact (List.getElem?_eq_some_iff.1 this).1
      rw [hget hm.sz x hxl, hnone x hxl] at h1
      cases h1
  | succ fuel ih =>
    intro listed a w hc hm
    refine ⟨fun hr => hend listed a w hm (hready listed hm.sz hr), fun i hi => ?_⟩
    obtain ⟨hun, o, ho, hpre⟩ := mem_ready.1 hi
    have hoi : l[i]? = some o := by simpa using ho
    have hil : i < l.length := (List.getElem?_eq_some_iff.1 hoi).1
    have hunf : listed.getD i false = false := by rw [← hget hm.sz i hil]; exact hun
    obtain ⟨v, d, hv, hd, hdN, hs1⟩ := hst i o hoi
    have hoO := orderOk_at hok hoi
    simp only [orderOkAt, Bool.and_eq_true] at hoO
    -- the act of the text's order agrees on all that the operation looks at
    have hagree : ∀ t ∈ looksO l.toArray o, a.tmps[t]? = (actAfter (l.take i) (vs.take i) a0).tmps[t]? := by
      intro t ht
      by_cases hx : ∃ (j : Nat) (o' : Oper), l[j]? = some o' ∧ o'.dst = some t
      · obtain ⟨j, o', hj, hd'⟩ := hx
        have hjl : j < l.length := (List.getElem?_eq_some_iff.1 hj).1
        have h2 := List.all_eq_true.1 hoO.2 j (List.mem_range.2 hjl)
        have hb : (l.toArray[j]?).bind (·.dst) = some t := by simp [hj, hd']
        simp only [hb, Bool.and_eq_true] at h2
        have h3 := h2.2
        rw [List.contains_iff_mem.2 ht] at h3
        simp only [Bool.not_true, Bool.false_or] at h3
        by_cases hji : j < i
        · rw [if_pos (by simpa [Nat.blt_eq] using hji)] at h3
          obtain ⟨e, he, hbe⟩ := Array.any_eq_true'.1 h3
          simp only [Bool.and_eq_true, beq_iff_eq] at hbe
          have hjlisted : listed.getD j false = true := by rw [← hbe.2]; exact hpre e he hbe.1
          obtain ⟨u, d', hu, hd2, hdN', _⟩ := hst j o' hj
          rw [hd'] at hd2; injection hd2 with hd2; subst hd2
          rw [hm.done j o' t u hj hu hd' hjlisted]
          refine (actAfter_get (l.take i) (vs.take i) a0 j o' u t ?_ ?_ hd' (by rw [h0.size]; exact hdN') (fun j' o'' hj' hd'' => ?_)).symm
          · rw [List.getElem?_take_of_lt hji]; exact hj
          · rw [List.getElem?_take_of_lt hji]; exact hu
          · have hj'l : l[j']? = some o'' := by
              have hlt : j' < i := by
                have := (List.getElem?_eq_some_iff.1 hj').1
                simp at this; omega
              rwa [List.getElem?_take_of_lt hlt] at hj'
            exact hdist j' j o'' o' t hj'l hj hd'' hd'
        · rw [if_neg (by simpa [Nat.blt_eq] using hji)] at h3
          by_cases hij : i < j
          · rw [if_pos (by simpa [Nat.blt_eq] using hij)] at h3
            have h4 : waits o' i = true := by
              have : l.toArray[j]? = some o' := by simpa using hj
              rw [this] at h3; simpa using h3
            obtain ⟨e, he, hbe⟩ := Array.any_eq_true'.1 h4
            simp only [Bool.and_eq_true, beq_iff_eq] at hbe
            have hjun : listed.getD j false = false := by
              rcases hb2 : listed.getD j false with _ | _
              · rfl
              · have := hm.closed j o' hj hb2 e he hbe.1
                rw [hbe.2, hunf] at this; cases this
            rw [hm.rest t (fun j' o'' hj' hd'' => by rw [hdist j' j o'' o' t hj' hj hd'' hd']; exact hjun), actAfter_not]
            intro o'' ho'' hd''
            obtain ⟨j', hj'⟩ := List.getElem?_of_mem ho''
            have hlt : j' < i := by
              have := (List.getElem?_eq_some_iff.1 hj').1
              simp at this; omega
            rw [List.getElem?_take_of_lt hlt] at hj'
            have := hdist j' j o'' o' t hj' hj hd'' hd'
            omega
          · rw [if_neg (by simpa [Nat.blt_eq] using hij)] at h3; cases h3
      · have hx' : ∀ (j : Nat) (o : Oper), l[j]? = some o → o.dst ≠ some t := fun j o hj hd => hx ⟨j, o, hj, hd⟩
        rw [hm.rest t (fun j o hj hd => absurd hd (hx' j o hj)), actAfter_not]
        intro o'' ho'' hd''
        obtain ⟨j', hj'⟩ := List.getElem?_of_mem ho''
        have hlt : j' < i := by
          have := (List.getElem?_eq_some_iff.1 hj').1
          simp at this; omega
        rw [List.getElem?_take_of_lt hlt] at hj'
        exact hx' j' o'' hj' hd''
    have hev : ∀ x ∈ o.op.operands, a.eval x = (actAfter (l.take i) (vs.take i) a0).eval x := by
      intro x hx
      cases x with
      | tmp t =>
        have := hagree t (List.mem_append_left _ (List.mem_filterMap.2 ⟨.tmp t, by simpa using hx, rfl⟩))
        simp [Act.eval, Array.getD_eq_getD_getElem?, this]
      | const v => rfl
      | global g => rfl
      | func f => rfl
    have hex : execOp a.eval o = execOp (actAfter (l.take i) (vs.take i) a0).eval o := execOp_congr o (fun cs b e => by
      have := hoO.1.1
      simp [e, isSelect] at this) hev
    have hwant : Region.wanted o (yielded l.toArray a.tmps) = Region.wanted o (yielded l.toArray (actAfter (l.take i) (vs.take i) a0).tmps) := by
      unfold Region.wanted
      cases hg : o.guard with
      | none => rfl
      | some jb =>
        obtain ⟨j, b⟩ := jb
        have : yielded l.toArray a.tmps j = yielded l.toArray (actAfter (l.take i) (vs.take i) a0).tmps j := by
          unfold yielded
          cases hb : (l.toArray[j]?).bind (·.dst) with
          | none => rfl
          | some t =>
            have := hagree t (List.mem_append_right _ (by rw [hg]; simp only [hb]; simp))
            simp only [Option.bind_some, this]
        simp only [this]
    have hA := actAfter_ok (l.take i) (vs.take i) L a0 (fun o' ho' => by
      obtain ⟨j, hj⟩ := List.getElem?_of_mem (List.mem_of_mem_take ho')
      obtain ⟨_, d, _, hd, hdN, _⟩ := hst j o' hj
      exact ⟨d, hd, hdN⟩) h0
    have hnext : ∀ w', Grow w w' → wpAnyIn (FR C.ro) 0 C.P .any l.toArray Q fuel (listed.setIfInBounds i true) (a.put o.dst v) w' := by
      intro w' hg
      have hils : i < listed.size := by rw [hm.sz]; exact hil
      refine ih _ _ _ ?_ ?_
      · have := count_lt (fun i => !listed.getD i true) (fun j => !(listed.setIfInBounds i true).getD j true) (List.range l.length) (fun x _ hx2 => by
          rw [getD_setT hils] at hx2
          by_cases e : i = x
          · rw [if_pos e] at hx2; cases hx2
          · rwa [if_neg e] at hx2) i (List.mem_range.2 hil) (by rw [hun]; rfl) (by rw [getD_setT hils, if_pos rfl]; rfl)
        omega
      · refine ⟨by simp [hm.sz], ?_, ?_, hm.hp.grow hg, fun j o' hj hl e he hbe => ?_, fun j o' d' v' hj hv' hd' hl => ?_, fun t ht => ?_⟩
        · rw [hd]; exact hm.defers
        · rw [hd]; simp [Act.put, hm.size]
        · rw [getD_set hils] at hl ⊢
          by_cases h2 : i = e.on
          · rw [if_pos h2]
          · rw [if_neg h2]
            by_cases h1 : i = j
            · subst h1
              rw [hoi] at hj; injection hj with hj; subst hj
              exact hpre e he hbe
            · rw [if_neg h1] at hl
              exact hm.closed j o' hj hl e he hbe
        · rw [hd]
          simp only [Act.put, Array.getElem?_setIfInBounds]
          by_cases h1 : i = j
          · subst h1
            rw [hoi] at hj; injection hj with hj; subst hj
            rw [hd] at hd'; injection hd' with hd'; subst hd'
            rw [hv] at hv'; injection hv' with hv'; subst hv'
            simp [hm.size, hdN]
          · rw [getD_set hils, if_neg h1] at hl
            rw [if_neg (fun e => h1 (hdist i j o o' d' hoi hj (by rw [hd, e]) hd'))]
            exact hm.done j o' d' v' hj hv' hd' hl
        · have hne : d ≠ t := fun e => by
            have := ht i o hoi (by rw [hd, e])
            rw [getD_set hils, if_pos rfl] at this; cases this
          rw [hd]
          simp only [Act.put, Array.getElem?_setIfInBounds, if_neg hne]
          refine hm.rest t (fun j o' hj hd' => ?_)
          have := ht j o' hj hd'
          rw [getD_set hils] at this
          by_cases h1 : i = j
          · rw [if_pos h1] at this; cases this
          · rwa [if_neg h1] at this
    unfold wpOpIn
    rw [ho]
    show (if _ then _ else _)
    rcases hs1 _ w hA hm.hp with ⟨hw, hnd, hy⟩ | ⟨hw, rfl⟩
    · rw [hwant, if_pos hw]
      refine uponIn_of_yields hnd ?_ hnext
      unfold YieldsV at hy ⊢
      rw [hex]; exact hy
    · rw [hwant, if_neg (by rw [hw]; simp)]
      exact ⟨fun _ _ => trivial, hnext w (Below.refl _ _)⟩

/-- THE RULE. -/
theorem cj_draw {Q : Exit → Act → World → Prop} {L : Regs} {id : Nat} {l : List Oper} (hm : C.P.follows .mixedOrders = true) (hok : orderOk l = true) (h : GJ C l.toArray O S l L (fun L' => EJ C Q .normal L' O S)) : CJ C (.region id l.toArray true) Q L O S := by
  intro a w hr hp
  obtain ⟨vs, _, hst, hK⟩ := gj_values l L h
  refine wpIn_region_any hm ?_
  have hfil : ((List.range l.length).filter fun i => !(Array.replicate l.toArray.size false).getD i true).length ≤ l.toArray.size := by
    have := List.length_filter_le (fun i => !(Array.replicate l.toArray.size false).getD i true) (List.range l.length)
    simpa using this
  refine draw_any hok hr hst hK _ _ _ _ hfil ⟨by simp, hr.defers, hr.size, hp.grow ⟨rfl, rfl, rfl, Nat.le_refl _, fun _ _ => rfl⟩, fun j o hj hl => ?_, fun j o d v hj _ _ hl => ?_, fun _ _ => rfl⟩
  · exfalso
    simp only [Array.getD_eq_getD_getElem?, Array.getElem?_replicate] at hl
    split at hl <;> simp at hl
  · exfalso
    simp only [Array.getD_eq_getD_getElem?, Array.getElem?_replicate] at hl
    split at hl <;> simp at hl
end
end Go.Sx
namespace Go.Sx
open Go.RowKit

/-! ### Sublists by instances -/
class SubO (O' O : List Fact) : Prop where
  sub : O'.Sublist O
instance (priority := 1200) SubO.same (O : List Fact) : SubO O O := ⟨.refl _⟩
instance (priority := 1100) SubO.nil (O : List Fact) : SubO [] O := ⟨List.nil_sublist _⟩
instance (priority := 1000) SubO.both (f : Fact) (O' O : List Fact) [h : SubO O' O] : SubO (f :: O') (f :: O) := ⟨h.sub.cons_cons f⟩
instance (priority := 900) SubO.drop (f : Fact) (O' O : List Fact) [h : SubO O' O] : SubO O' (f :: O) := ⟨h.sub.cons f⟩

/-! ### Runs under a guard -/
/-- More knowledge serves as well. -/
class Anti (K : Regs → Prop) : Prop where
  anti : ∀ L1 L2 : Regs, (∀ t u, look L1 t = some u → look L2 t = some u) → K L1 → K L2

section
variable {C : Cx} {Q : Exit → Act → World → Prop} {L : Regs} {O S : List Fact} {ops : Array Oper}

theorem aj_anti {K : Act → World → Prop} {L1 L2 : Regs} (h : ∀ t u, look L1 t = some u → look L2 t = some u) (hk : AJ C K L1 O S) : AJ C K L2 O S := fun a w hr hp => hk a w (hr.sub h) hp
instance (e : Exit) : Anti (fun L' => EJ C Q e L' O S) := ⟨fun _ _ h hk => aj_anti h hk⟩
instance (l : List Oper) : Anti (fun L' => OJ C ops Q l L' O S) := ⟨fun _ _ h hk => aj_anti h hk⟩
instance (d : Nat) (v : Value) : Anti (fun L' => look L' d = some v) := ⟨fun _ _ h hk => h _ _ hk⟩

theorem gj_anti {K : Regs → Prop} [hK : Anti K] : ∀ (l : List Oper) (L1 L2 : Regs), (∀ t u, look L1 t = some u → look L2 t = some u) → GJ C ops O S l L1 K → GJ C ops O S l L2 K
  | [], L1, L2, h, hk => hK.anti L1 L2 h hk
  | o :: l, L1, L2, h, ⟨v, d, hd, hdN, hs, hk⟩ => ⟨v, d, hd, hdN, fun a w hr hp => hs a w (hr.sub h) hp, gj_anti l _ _ (fun t u ht => by
      rw [look_cons] at ht ⊢
      by_cases e : d = t
      · rw [if_pos e] at ht ⊢; exact ht
      · rw [if_neg e] at ht ⊢; exact h t u ht) hk⟩

/-- No entry of the list is written by the run. -/
def freshR (blk : List Oper) : Regs → Bool
  | [] => true
  | p :: r => blk.all (fun o => match o.dst with | some d => !(Nat.beq d p.1) | none => true) && freshR blk r
theorem freshR_look {blk : List Oper} : ∀ {L : Regs}, freshR blk L = true → ∀ t u, look L t = some u → blk.all (fun o => o.dst != some t) = true
  | [], _, t, u, h => by cases h
  | p :: r, hf, t, u, h => by
    obtain ⟨k, v⟩ := p
    simp only [freshR, Bool.and_eq_true] at hf
    rw [look_cons] at h
    by_cases e : k = t
    · subst e
      refine List.all_eq_true.2 fun o ho => ?_
      have := List.all_eq_true.1 hf.1 o ho
      cases hd : o.dst with
      | none => simp
      | some d =>
        simp only [hd] at this
        have hne : d ≠ k := fun e => by subst e; simp at this
        simp [hne]
    · rw [if_neg e] at h
      exact freshR_look hf.2 t u h

theorem gj_g {l : List Oper} {K : Regs → Prop} [hK : Anti K] (m dj d : Nat) {b g : Bool} {v : Value} (hl : look L dj = some (.bool g)) (hs : skips ops C.N dj b (l.take m) [] = true) (hd : (l.take m).any (fun o => o.dst == some d) = true) (hf : freshR (l.take m) L = true)
    (hy : g = b → GJ C ops O S (l.take m) ((dj, .bool b) :: L) (fun L' => look L' d = some v))
    (k : GJ C ops O S (l.drop m) ((d, gd g b v) :: L) K) : GJ C ops O S l L K :=
  gj_guard m hl hs hd hy fun L' h1 h2 => gj_anti _ _ _ (fun t u ht => by
    rw [look_cons] at ht
    by_cases e : d = t
    · subst e; rw [if_pos rfl] at ht; rw [h2]; exact ht
    · rw [if_neg e] at ht
      exact h1 t u ht (freshR_look hf t u ht)) k

theorem cj_regionG {id : Nat} {l : List Oper} (h : GJ C l.toArray O S l L (fun L' => EJ C Q .normal L' O S)) : CJ C (.region id l.toArray false) Q L O S := by
  refine cj_region ?_
  have := oj_of_gj (C := C) (Q := Q) (ops := l.toArray) [] l L (gj_mono (fun L' h => oj_nil h) l L h)
  rwa [List.append_nil] at this
/-! ### Loops, cuts -/
theorem ej_nx {X : Type} {inv : X → Prop} {Lx : X → Regs} {Ox Sx : X → List Fact} {μ : X → Nat} {m : Nat} (x' : X) (hm : μ x' < m) (hi : inv x') (hL : subR L (Lx x')) [hO : SubO (Ox x') O] [hS : SubO (Sx x') S] :
    EJ C (Exit.then (fun a w => ∃ x', μ x' < m ∧ LoopI C inv Lx Ox Sx x' a w) Q) .normal L O S :=
  ej_next x' hm hi hL hO.sub (fun _ hf => hS.sub.subset hf)
theorem ej_ct {X : Type} {inv : X → Prop} {Lx : X → Regs} {Ox Sx : X → List Fact} (x' : X) (hi : inv x') (hL : subR L (Lx x')) [hO : SubO (Ox x') O] [hS : SubO (Sx x') S] :
    EJ C (Exit.then (fun a w => ∃ x, LoopI C inv Lx Ox Sx x a w) Q) .normal L O S :=
  ej_cut x' hi hL hO.sub (fun _ hf => hS.sub.subset hf)
end

/-! ### What a contract takes and gives -/
section
variable {α : Type}
/-- The slice reads as xs in this world. -/
def Rd (w : World) (sz : Nat) (enc : α → List Value) (A : Option Addr) (xs : List α) : Prop := (sl (fun b => b < w.heap.size) sz enc A xs).P w
/-- The slice reads as xs, and lies in blocks that are new since w. -/
def Res (w w' : World) (sz : Nat) (enc : α → List Value) (A : Option Addr) (xs : List α) : Prop := (sl (fun b => w.heap.size ≤ b ∧ b < w'.heap.size) sz enc A xs).P w'

theorem sl_fp {fp fp' : Nat → Prop} {sz : Nat} {enc : α → List Value} {A : Option Addr} {xs : List α} {w : World} (h : (sl fp sz enc A xs).P w) (hf : ∀ b, fp b → fp' b) : (sl fp' sz enc A xs).P w :=
  ⟨h.1, fun hne => let ⟨a, ha, hb, hc⟩ := h.2 hne; ⟨a, ha, hf _ hb, hc⟩⟩
theorem Rd.nil {w : World} {sz : Nat} {enc : α → List Value} {A : Option Addr} : Rd w sz enc A [] := ⟨Nat.zero_le _, fun h => absurd rfl h⟩
theorem Res.nil {w w' : World} {sz : Nat} {enc : α → List Value} {A : Option Addr} : Res w w' sz enc A [] := ⟨Nat.zero_le _, fun h => absurd rfl h⟩
theorem Rd.len {w : World} {sz : Nat} {enc : α → List Value} {A : Option Addr} {xs : List α} (h : Rd w sz enc A xs) : xs.length ≤ 9223372036854775807 := by have := h.1; unfold maxLen at this; omega
theorem Rd.ne {w : World} {sz : Nat} {enc : α → List Value} {A : Option Addr} {xs : List α} (h : Rd w sz enc A xs) (hne : 0 < xs.length) : A ≠ none := by
  obtain ⟨a, rfl, _⟩ := h.2 (by rintro rfl; simp at hne)
  simp
theorem Rd.mono {w w' : World} {sz : Nat} {enc : α → List Value} {A : Option Addr} {xs : List α} (h : Rd w sz enc A xs) (hg : Grow w w') : Rd w' sz enc A xs :=
  sl_fp ((sl (fun b => b < w.heap.size) sz enc A xs).stab (fun b hb => hg.block b hb) h) (fun _ hb => Nat.lt_of_lt_of_le hb hg.size)

variable {C : Cx} {O S : List Fact} {w : World}
theorem Hp.rd {F : Nat → Prop} {w0 : World} (hp : Hp F w0 O S w) {A : Option Addr} {fp : Nat → Prop} {sz : Nat} {enc : α → List Value} {xs : List α} [h : HasSl S A fp sz enc xs] : Rd w sz enc A xs :=
  sl_fp (hp.shared _ h.mem).1 (hp.shared _ h.mem).2.1
theorem Hp.rdO {F : Nat → Prop} {w0 : World} (hp : Hp F w0 O S w) {A : Option Addr} {e : TypeId} {c sz : Nat} {enc : α → List Value} {xs : List α} [h : HasOw O A e sz enc c xs] (he : ∀ x, (enc x).length = sz) (hm : xs.length ≤ maxLen) : Rd w sz enc A xs := by
  refine ⟨hm, fun hne => ?_⟩
  obtain ⟨a, ha, hc⟩ := ow_cells (hp.own _ h.mem).1 he hne
  refine ⟨a, ha, ((hp.own _ h.mem).2 a.block ?_).1, hc⟩
  rw [ha]; rfl

variable {Q : Exit → Act → World → Prop} {ops : Array Oper} {rest : List Oper} {L : Regs} {ty : TypeId} {pos : String} {aft : Array Edge} {d : Nat} {f : FuncId} {xs : List Operand} {vs : List Value} {ats : Array TypeId}

/-- A call whose result holds one new slice that is only read from here on. -/
theorem oj_callS (enc : Option Addr → Nat → Value) (sz : Nat) (encE : α → List Value) (ys : List α) (hf : ∀ args w, (callFunc f args).run C.P w = .ok (.enter f args) w) (hv : valsO L xs = some vs)
    (hc : ∀ w, Hp C.F C.w0 O S w → Calls C.P f vs.toArray w (fun e w' => ∃ A c, e = .returned (enc A c) ∧ Grow w w' ∧ Res w w' sz encE A ys)) (hdN : Nat.blt d C.N = true)
    (k : ∀ A c fp, (∀ b, fp b → C.w0.heap.size ≤ b) → OJ C ops Q rest ((d, enc A c) :: L) O (sl fp sz encE A ys :: S)) : OJ C ops Q (⟨some d, .call ⟨.value (.func f), xs.toArray, ats⟩, ty, pos, aft, none⟩ :: rest) L O S :=
  oj_call (X := { x : Option Addr × Nat × Nat × Nat // C.w0.heap.size ≤ x.2.2.1 }) (fun x => enc x.1.1 x.1.2.1) (fun _ => []) (fun x => [sl (fun b => x.1.2.2.1 ≤ b ∧ b < x.1.2.2.2) sz encE x.1.1 ys]) hf hv
    (fun w hp => (hc w hp).mono fun e w' ⟨A, c, he, hg, hr⟩ => ⟨⟨(A, c, w.heap.size, w'.heap.size), hp.size⟩, he, hg, by simp, by simp, fun g hg' => by
      simp only [List.mem_singleton] at hg'
      subst hg'
      exact ⟨hr, fun b hb => ⟨hb.1, hb.2, by simp⟩⟩⟩) hdN (fun x => k x.1.1 x.1.2.1 _ (fun _ hb => Nat.le_trans x.2 hb.1))

/-- A call whose result holds one new slice that the caller owns. -/
theorem oj_callO (enc : Option Addr → Nat → Value) (e0 : TypeId) (sz : Nat) (encE : α → List Value) (ys : List α) (hf : ∀ args w, (callFunc f args).run C.P w = .ok (.enter f args) w) (hv : valsO L xs = some vs)
    (hc : ∀ w, Hp C.F C.w0 O S w → Calls C.P f vs.toArray w (fun e w' => ∃ A c, e = .returned (enc A c) ∧ Grow w w' ∧ (ow e0 sz encE A c ys).P w' ∧ ∀ b, (ow e0 sz encE A c ys).fp b → w.heap.size ≤ b)) (hdN : Nat.blt d C.N = true)
    (k : ∀ A c, OJ C ops Q rest ((d, enc A c) :: L) (ow e0 sz encE A c ys :: O) S) : OJ C ops Q (⟨some d, .call ⟨.value (.func f), xs.toArray, ats⟩, ty, pos, aft, none⟩ :: rest) L O S :=
  oj_call (X := Option Addr × Nat) (fun x => enc x.1 x.2) (fun x => [ow e0 sz encE x.1 x.2 ys]) (fun _ => []) hf hv
    (fun w hp => (hc w hp).mono fun e w' ⟨A, c, he, hg, hr, hn⟩ => ⟨(A, c), he, hg, fun g hg' => by
      simp only [List.mem_singleton] at hg'
      subst hg'
      refine ⟨hr, fun b hb => ⟨hn b hb, ?_⟩⟩
      exact (World.ownsRow.lt hr b hb).2, by simp, by simp⟩) hdN (fun x => k x.1 x.2)

/-- What an owned slice is to the caller, at the end. -/
theorem Hp.res {w0 : World} (hp : Hp (fun b => b < w0.heap.size) w0 O S w) {A : Option Addr} {e : TypeId} {c sz : Nat} {enc : α → List Value} {xs : List α} [h : HasOw O A e sz enc c xs] (he : ∀ x, (enc x).length = sz) (hm : xs.length ≤ maxLen) : Res w0 w sz enc A xs := by
  refine ⟨hm, fun hne => ?_⟩
  obtain ⟨a, ha, hc⟩ := ow_cells (hp.own _ h.mem).1 he hne
  have hb := (hp.own _ h.mem).2 a.block (by rw [ha]; rfl)
  exact ⟨a, ha, ⟨Nat.le_of_not_lt hb.2, hb.1⟩, hc⟩
theorem Hp.resO {w0 : World} (hp : Hp (fun b => b < w0.heap.size) w0 O S w) {A : Option Addr} {e : TypeId} {c sz : Nat} {enc : α → List Value} {xs : List α} [h : HasOw O A e sz enc c xs] : (ow e sz enc A c xs).P w ∧ ∀ b, (ow e sz enc A c xs).fp b → w0.heap.size ≤ b :=
  ⟨(hp.own _ h.mem).1, fun b hb => Nat.le_of_not_lt ((hp.own _ h.mem).2 b hb).2⟩
/-- A shared slice whose blocks are known to be new (it came out of a call). -/
theorem Hp.resS {F : Nat → Prop} {w0 : World} (hp : Hp F w0 O S w) {A : Option Addr} {fp : Nat → Prop} {sz : Nat} {enc : α → List Value} {xs : List α} [h : HasSl S A fp sz enc xs] (hn : ∀ b, fp b → w0.heap.size ≤ b) : Res w0 w sz enc A xs :=
  sl_fp (hp.shared _ h.mem).1 (fun b hb => ⟨hn b hb, (hp.shared _ h.mem).2.1 b hb⟩)
end

/-- Integers as elements. -/
abbrev enInt (n : Int) : List Value := [.int .i64 n]
abbrev enStr (s : ByteArray) : List Value := [.string s]
theorem enInt_len (x : Int) : (enInt x).length = 1 := rfl
theorem enInt_one (x : Int) : ∀ v ∈ enInt x, v.oneCell' = true := by simp [enInt, Value.oneCell']
end Go.Sx
namespace Go.Sx
open Go.RowKit
section
variable {α : Type} {C : Cx} {L : Regs} {O S : List Fact} {dst : Option Tmp} {ty : TypeId} {pos : String} {aft : Array Edge} {gu : Option (Nat × Bool)} {x y : Operand}
/-- An element's place in a slice that reads as a list. -/
theorem y_ixR {s e n c sz : Nat} {A : Option Addr} {i : Int} {k : IntKind} {enc : α → List Value} {xs : List α} (hr0 : Reads C O S sz enc A xs) (hu : C.P.underlying s = some (.slice e)) (hs : ∀ w, (sizeOf e).run C.P w = .ok n w) (hx : val L x = some (.slice A xs.length c)) (hy : val L y = some (.int k i)) (hi : 0 ≤ i ∧ i < xs.length) :
    Yi C ⟨dst, .indexAddr s x y, ty, pos, aft, gu⟩ L O S (.pointer (some (at_ A (i.toNat * n)))) :=
  ⟨(by intro c h; cases h), fun a w hr hp => by
    obtain ⟨ad, rfl, _⟩ := hr0 w hp (by rintro rfl; simp at hi; omega)
    exact (y_ix (O := O) (S := S) hu hs hx hy hi (by simp)).2 a w hr hp⟩
theorem geq {xs : List α} {i : Nat} (d : α) (h : i < xs.length) : xs[i]? = some (xs.getD i d) := by
  rw [List.getD_eq_getElem?_getD, List.getElem?_eq_getElem h]; rfl
/-- Any binary operation whose run is known. -/
theorem y_bin {op : BinOp} {t t' : TypeId} {u v r : Value} (hx : val L x = some u) (hy : val L y = some v) (h : ∀ (x y : Operand) (w : World), (do eqGuard op t x y u v; binOp op t u v : Sem Value).run C.P w = .ok r w) : Yi C ⟨dst, .binOp op t x y t', ty, pos, aft, gu⟩ L O S r :=
  yi_val (by intro c h; cases h) fun a w hr _ => by
    have := h x y w
    simp only [execOp, hr.val hx, hr.val hy]
    rw [Sem.run_bind, this]; rfl
/-- A conjunction that is no longer guarded. -/
theorem y_pick {c : Operand} {g : Bool} {u v : Value} (hc : val L c = some (.bool g)) (hx : val L x = some u) (hy : val L y = some v) : Yi C ⟨dst, .pick c x y, ty, pos, aft, gu⟩ L O S (bif g then u else v) :=
  yi_val (by intro c h; cases h) fun a w hr _ => by
    simp only [execOp, hr.val hc, hr.val hx, hr.val hy]
    cases g <;> simp [asBool]
theorem y_makeFunc {fn : Fn} {first cap : List Operand} {vf vc : List Value} (hf : valsO L first = some vf) (hc : valsO L cap = some vc) : Yi C ⟨dst, .makeFunc fn first.toArray cap.toArray, ty, pos, aft, gu⟩ L O S (.func fn vf.toArray vc.toArray) :=
  yi_val (by intro c h; cases h) fun a w hr _ => by
    have h1 := valsO_eval hr first vf hf
    have h2 := valsO_eval hr cap vc hc
    simp [execOp, Instr.makeFunc, ← h1, ← h2]
end
end Go.Sx
namespace Go.Sx
/-- A test's outcome, as a statement: all in one name. -/
theorem sxb : (∀ b : Bool, ((!b) = true) = (b = false)) ∧ (∀ b : Bool, ((!b) = false) = (b = true)) ∧ (∀ (p : Prop) [Decidable p], (decide p = true) = p) ∧ (∀ (p : Prop) [Decidable p], (decide p = false) = ¬ p) ∧
    (∀ a b : Bool, ((a && b) = true) = (a = true ∧ b = true)) ∧ (∀ a b : Bool, ((a || b) = true) = (a = true ∨ b = true)) ∧ (∀ a b : Bool, ((a && b) = false) = (a = false ∨ b = false)) ∧ (∀ a b : Bool, ((a || b) = false) = (a = false ∧ b = false)) ∧
    (∀ a b : Int, ((a == b) = true) = (a = b)) ∧ (∀ a b : Int, ((a != b) = true) = (a ≠ b)) ∧ (∀ a b : Int, ((a == b) = false) = (a ≠ b)) ∧ (∀ a b : Int, ((a != b) = false) = (a = b)) ∧ (∀ a b : Int, (¬ a < b) = (b ≤ a)) ∧ (∀ a b : Int, (¬ a ≤ b) = (b < a)) :=
  ⟨by simp, by simp, by simp, by simp, by simp, by simp, by simp, by simp, by simp, by simp, by simp, by simp, by simp, by simp⟩
end Go.Sx
namespace Go.Sx
open Go.RowKit

/-- What stands in order: whoever looks at a temporary that the j-th operation writes waits for it (and it is among those that have been planned), or is waited for (and it is not). -/
def seesOk (l : List Oper) (his : List Nat) (i : Nat) (o : Oper) : Bool :=
  (List.range l.length).all fun j => match (l.toArray[j]?).bind (·.dst) with
    | none => true
    | some d => !((looksO l.toArray o).contains d) || (waits o j && his.contains j && !(Nat.beq i j)) || ((l.toArray[j]?).any (waits · i) && !(his.contains j) && !(Nat.beq i j))

/-- The whole region: temporaries are written once; edges lead back; nobody waits for several channels or lays a call aside. -/
def planOk (l : List Oper) : Bool :=
  (l.zipIdx).all fun p => !isSelect p.1.op && (p.1.after.all fun e => !Region.binds .any e || Nat.blt e.on p.2) && (match p.1.op with | .defer _ => false | _ => true) &&
    (match p.1.dst with
     | none => true
     | some d => (l.zipIdx).all fun q => Nat.beq p.2 q.2 || !(q.1.dst == some d))

/-- Those that are not planned and wait for none that is not. -/
def openAt (l : List Oper) (his : List Nat) : List Nat :=
  (List.range l.length).filter fun i => !(his.contains i) && ((l.toArray[i]?).any fun o => o.after.all fun e => !Region.binds .any e || his.contains e.on)

/-- An operation that has been planned: its number, what was known, what it yields. -/
structure Pend where
  i : Nat
  o : Oper
  L : Regs
  v : Value

section
variable {C : Cx} {S : List Fact}

/-- After an operation that writes: what may still be carried out yields the same. -/
def Later (C : Cx) (l : List Oper) (pend : List Pend) (o : Oper) (O S : List Fact) : Prop := ∀ p ∈ pend, waits o p.i = true ∨ Steps1 C l.toArray O S p.o p.L p.v

/-- It goes on, and nothing else happens. -/
def NQ (K : Act → World → Prop) : Exit → Act → World → Prop
  | .normal, a, w => K a w
  | _, _, _ => False

/-- It goes on, or it panics, whatever the temporaries are. -/
def NP (C : Cx) (Q : Exit → Act → World → Prop) (K : Act → World → Prop) : Exit → Act → World → Prop
  | .normal, a, w => K a w
  | .panic ch, _, w => ∀ a', a'.defers = C.D → a'.tmps.size = C.N → Q (.panic ch) a' w
  | _, _, _ => False

/-- The same walk from another world. -/
abbrev Cx.mv (C : Cx) (F : Nat → Prop) (w0 : World) : Cx := { C with F := F, w0 := w0 }
/-- THE PLAN: in at most n steps. -/
def PlanN (l : List Oper) (Q : Exit → Act → World → Prop) : Nat → Cx → List Nat → List Pend → Regs → List Fact → List Fact → Prop
  | 0, C, his, _, L, O, S => (∀ i, i < l.length → i ∈ his) ∧ EJ C Q .normal L O S
  | n + 1, C, his, pend, L, O, S =>
    (∃ i o d v, l[i]? = some o ∧ o.dst = some d ∧ d < C.N ∧ i ∉ his ∧ seesOk l his i o = true ∧ Steps1 C l.toArray O S o L v ∧ PlanN l Q n C (i :: his) (⟨i, o, L, v⟩ :: pend) ((d, v) :: L) O S) ∨
    ((∃ i, i < l.length ∧ i ∉ his) ∧ ∀ i ∈ openAt l his, ∃ o, l[i]? = some o ∧ (∀ a, RegsOk C.N C.D L a → Region.wanted o (yielded l.toArray a.tmps) = true) ∧ (∀ d, o.dst = some d → d < C.N) ∧ seesOk l his i o = true ∧
        OJ C l.toArray (NP C Q fun a' w' => ∃ F' w0' L' O' S', RegsOk C.N C.D L' a' ∧ Hp F' w0' O' S' w' ∧ Later (C.mv F' w0') l pend o O' S' ∧ PlanN l Q n (C.mv F' w0') (i :: his) pend L' O' S') [o] L O S)
abbrev Plan (C : Cx) (l : List Oper) (Q : Exit → Act → World → Prop) (n : Nat) (his : List Nat) (pend : List Pend) (L : Regs) (O S : List Fact) : Prop := PlanN l Q n C his pend L O S

/-- The same operation in another act that agrees on all that it looks at. -/
theorem wpIn_transfer {o : Oper} {a a' : Act} {w : World} {next next' : Act → World → Prop} {Q : Exit → Act → World → Prop} (hev : execOp a'.eval o = execOp a.eval o) (hnd : ∀ c, o.op ≠ .defer c) (hdef : ∀ b w', next b w' → b.defers = a.defers)
    {K : Act → World → Prop} (hk : ∀ u w', next (a.put o.dst u) w' → next' (a'.put o.dst u) w') (hsz : a'.defers = C.D ∧ a'.tmps.size = C.N) (h : o.wpIn (FR C.ro) 0 C.P a w next (NP C Q K)) : o.wpIn (FR C.ro) 0 C.P a' w next' Q := by
  unfold Oper.wpIn at *
  refine ⟨fun _ _ => trivial, ?_⟩
  have h2 := h.2
  rw [Oper.semAt_eq _ _ _ hnd] at h2 ⊢
  rw [hev]
  generalize hr : (execOp a.eval o).run C.P w = r at h2
  cases r with
  | ok n w' =>
    cases n <;> simp only [Oper.uponIn] at h2 ⊢
    case value v => exact hk _ _ h2
    case skip => exact hk _ _ h2
    case defer d =>
      have := hdef _ _ h2
      cases hd : o.dst <;> simp [hd, Act.put] at this
    case enter f args => exact ⟨h2.1, h2.2.mono fun e w'' he => by cases e <;> first | exact hk _ _ he | exact he a' hsz.1 hsz.2 | exact (show False from he).elim | (obtain ⟨_, _, hx⟩ := he; exact (show False from hx).elim)⟩
    case row row args => exact ⟨h2.1, h2.2.mono fun v w'' he => hk _ _ he⟩
    case round l f tmps as body => exact ⟨h2.1, h2.2.mono fun e w'' he => by cases e <;> first | exact hk _ _ he | exact he a' hsz.1 hsz.2 | exact (show False from he).elim | (obtain ⟨_, _, hx⟩ := he; exact (show False from hx).elim)⟩
  | halt x w' => cases x <;> simp only [Oper.uponIn] at h2 ⊢ <;> first | exact h2 a' hsz.1 hsz.2 | exact (show False from h2).elim

/-- What the check on the whole region says. -/
theorem planOk_dist {l : List Oper} (h : planOk l = true) {i j : Nat} {o o' : Oper} {d : Nat} (hi : l[i]? = some o) (hj : l[j]? = some o') (hd : o.dst = some d) (hd' : o'.dst = some d) : i = j := by
  have h1 := List.all_eq_true.1 h (o, i) (by rw [List.mem_zipIdx_iff_getElem?]; exact hi)
  simp only [hd, Bool.and_eq_true] at h1
  have h2 := List.all_eq_true.1 h1.2 (o', j) (by rw [List.mem_zipIdx_iff_getElem?]; exact hj)
  simp only [hd', beq_self_eq_true, Bool.not_true, Bool.or_false] at h2
  exact Nat.eq_of_beq_eq_true h2
theorem planOk_back {l : List Oper} (h : planOk l = true) {i : Nat} {o : Oper} (hi : l[i]? = some o) : ∀ e ∈ o.after, Region.binds .any e = true → e.on < i := by
  intro e he hb
  have h1 := List.all_eq_true.1 h (o, i) (by rw [List.mem_zipIdx_iff_getElem?]; exact hi)
  simp only [Bool.and_eq_true] at h1
  have h2 := Array.all_eq_true'.1 h1.1.1.2 e he
  simp only [hb, Bool.not_true, Bool.false_or] at h2
  simpa [Nat.blt_eq] using h2
theorem planOk_sel {l : List Oper} (h : planOk l = true) {i : Nat} {o : Oper} (hi : l[i]? = some o) : (∀ cs b, o.op ≠ .select cs b) ∧ ∀ c, o.op ≠ .defer c := by
  have h1 := List.all_eq_true.1 h (o, i) (by rw [List.mem_zipIdx_iff_getElem?]; exact hi)
  simp only [Bool.and_eq_true] at h1
  refine ⟨fun cs b e => ?_, fun c e => ?_⟩
  · have := h1.1.1.1; simp [e, isSelect] at this
  · have := h1.1.2; simp [e] at this

/-- While the region is on its way. -/
structure Rt (C : Cx) (l : List Oper) (a0 : Act) (his : List Nat) (pend : List Pend) (L : Regs) (O S : List Fact) (listed : Array Bool) (a : Act) (w : World) (as : Act) : Prop where
  sz : listed.size = l.length
  defers : a.defers = C.D
  size : a.tmps.size = C.N
  hp : Hp C.F C.w0 O S w
  closed : ∀ (j : Nat) (o : Oper), l[j]? = some o → listed.getD j false = true → ∀ e ∈ o.after, Region.binds .any e = true → listed.getD e.on false = true
  reg : RegsOk C.N C.D L as
  sub : ∀ (j : Nat), listed.getD j false = true → j ∈ his
  done : ∀ (j : Nat) (o : Oper) (d : Nat), l[j]? = some o → o.dst = some d → listed.getD j false = true → a.tmps[d]? = as.tmps[d]?
  rest : ∀ t : Nat, (∀ (j : Nat) (o : Oper), l[j]? = some o → o.dst = some t → listed.getD j false = false) → a.tmps[t]? = a0.tmps[t]?
  srest : ∀ t : Nat, (∀ (j : Nat) (o : Oper), l[j]? = some o → o.dst = some t → j ∉ his) → as.tmps[t]? = a0.tmps[t]?
  pendOk : ∀ j ∈ his, j < l.length → listed.getD j false = false → ∃ p ∈ pend, p.i = j ∧ l[j]? = some p.o ∧ (∃ d, p.o.dst = some d ∧ d < C.N ∧ as.tmps[d]? = some p.v) ∧ Steps1 C l.toArray O S p.o p.L p.v ∧
    ∃ hj aj, RegsOk C.N C.D p.L aj ∧ seesOk l hj j p.o = true ∧ (∀ x ∈ hj, x ∈ his) ∧ (∀ (t i : Nat) (o : Oper), i ∈ hj → l[i]? = some o → o.dst = some t → aj.tmps[t]? = as.tmps[t]?) ∧
      (∀ t : Nat, (∀ (i : Nat) (o : Oper), l[i]? = some o → o.dst = some t → i ∉ hj) → aj.tmps[t]? = a0.tmps[t]?)

variable {l : List Oper} {a0 : Act} {his : List Nat} {pend : List Pend} {L : Regs} {O : List Fact} {listed : Array Bool} {a as : Act} {w : World} {Q : Exit → Act → World → Prop}

theorem Rt.agree (hok : planOk l = true) (h : Rt C l a0 his pend L O S listed a w as) {i : Nat} {o : Oper} (hun : listed.getD i false = false) (hpre : ∀ e ∈ o.after, Region.binds .any e = true → listed.getD e.on false = true)
    {hj : List Nat} {aj : Act} (hsee : seesOk l hj i o = true) (h1 : ∀ (t i : Nat) (o : Oper), i ∈ hj → l[i]? = some o → o.dst = some t → aj.tmps[t]? = as.tmps[t]?) (h2 : ∀ t : Nat, (∀ (i : Nat) (o : Oper), l[i]? = some o → o.dst = some t → i ∉ hj) → aj.tmps[t]? = a0.tmps[t]?) :
    ∀ t ∈ looksO l.toArray o, a.tmps[t]? = aj.tmps[t]? := by
  intro t ht
  by_cases hx : ∃ (j : Nat) (o' : Oper), l[j]? = some o' ∧ o'.dst = some t
  · obtain ⟨j, o', hj', hd'⟩ := hx
    have hjl : j < l.length := (List.getElem?_eq_some_iff.1 hj').1
    have h3 := List.all_eq_true.1 hsee j (List.mem_range.2 hjl)
    have hb : (l.toArray[j]?).bind (·.dst) = some t := by simp [hj', hd']
    simp only [hb, List.contains_iff_mem.2 ht, Bool.not_true, Bool.false_or, Bool.or_eq_true, Bool.and_eq_true] at h3
    rcases h3 with ⟨⟨h4, h5⟩, _⟩ | ⟨⟨h4, h5⟩, _⟩
    · obtain ⟨e, he, hbe⟩ := Array.any_eq_true'.1 h4
      simp only [Bool.and_eq_true, beq_iff_eq] at hbe
      have hl : listed.getD j false = true := by rw [← hbe.2]; exact hpre e he hbe.1
      rw [h.done j o' t hj' hd' hl, h1 t j o' (by simpa using h5) hj' hd']
    · have h6 : waits o' i = true := by
        have : l.toArray[j]? = some o' := by simpa using hj'
        rw [this] at h4; simpa using h4
      obtain ⟨e, he, hbe⟩ := Array.any_eq_true'.1 h6
      simp only [Bool.and_eq_true, beq_iff_eq] at hbe
      have hjun : listed.getD j false = false := by
        rcases hb2 : listed.getD j false with _ | _
        · rfl
        · have := h.closed j o' hj' hb2 e he hbe.1
          rw [hbe.2, hun] at this; cases this
      rw [h.rest t (fun j' o'' hj'' hd'' => by rw [planOk_dist hok hj'' hj' hd'' hd']; exact hjun), h2 t (fun j' o'' hj'' hd'' => by
        rw [planOk_dist hok hj'' hj' hd'' hd']
        simpa using h5)]
  · have hx' : ∀ (j : Nat) (o : Oper), l[j]? = some o → o.dst ≠ some t := fun j o hj hd => hx ⟨j, o, hj, hd⟩
    rw [h.rest t (fun j o hj hd => absurd hd (hx' j o hj)), h2 t (fun j o hj hd => absurd hd (hx' j o hj))]

theorem exec_same {ops : Array Oper} {o : Oper} {a aj : Act} (hsel : ∀ cs b, o.op ≠ .select cs b) (h : ∀ t ∈ looksO ops o, a.tmps[t]? = aj.tmps[t]?) :
    execOp a.eval o = execOp aj.eval o ∧ Region.wanted o (yielded ops a.tmps) = Region.wanted o (yielded ops aj.tmps) := by
  constructor
  · refine execOp_congr o hsel fun x hx => ?_
    cases x with
    | tmp t =>
      have := h t (List.mem_append_left _ (List.mem_filterMap.2 ⟨.tmp t, by simpa using hx, rfl⟩))
      simp [Act.eval, Array.getD_eq_getD_getElem?, this]
    | const v => rfl
    | global g => rfl
    | func f => rfl
  · unfold Region.wanted
    cases hg : o.guard with
    | none => rfl
    | some jb =>
      obtain ⟨j, b⟩ := jb
      have : yielded ops a.tmps j = yielded ops aj.tmps j := by
        unfold yielded
        cases hb : (ops[j]?).bind (·.dst) with
        | none => rfl
        | some t =>
          have := h t (List.mem_append_right _ (by rw [hg]; simp only [hb]; simp))
          simp only [Option.bind_some, this]
      simp only [this]

theorem put_get {a : Act} {N : Nat} (hs : a.tmps.size = N) {d : Nat} (hd : d < N) (v : Value) (t : Nat) : (a.put (some d) v).tmps[t]? = if d = t then some v else a.tmps[t]? := by
  simp only [Act.put, Array.getElem?_setIfInBounds]
  by_cases e : d = t
  · subst e; simp [hs, hd]
  · simp [e]

/-- A planned operation is carried out. -/
theorem Rt.exec (hok : planOk l = true) (h : Rt C l a0 his pend L O S listed a w as) {i : Nat} {o : Oper} (hi : l[i]? = some o) (hun : listed.getD i false = false) (hpre : ∀ e ∈ o.after, Region.binds .any e = true → listed.getD e.on false = true) (hin : i ∈ his)
    {K : Act → World → Prop} (hK : ∀ a' w', Rt C l a0 his pend L O S (listed.setIfInBounds i true) a' w' as → K a' w') : wpOpIn (FR C.ro) 0 C.P l.toArray Q i K a w := by
  have hil : i < l.length := (List.getElem?_eq_some_iff.1 hi).1
  have hils : i < listed.size := by rw [h.sz]; exact hil
  obtain ⟨p, hp, hpi, hpo, ⟨d, hd, hdN, hv⟩, hst, hj, aj, haj, hsee, hsub, h1, h2⟩ := h.pendOk i hin hil hun
  rw [hi] at hpo; injection hpo with hpo; subst hpo
  have hag := exec_same (planOk_sel hok hi).1 (h.agree hok hun hpre hsee h1 h2)
  have hnext : ∀ w', Grow w w' → K (a.put p.o.dst p.v) w' := fun w' hg => hK _ _ (by
    rw [hd]
    refine ⟨by simp [h.sz], h.defers, by simp [Act.put, h.size], h.hp.grow hg, fun j o' hj hl e he hbe => ?_, h.reg, fun j hl => ?_, fun j o' d' hj' hd' hl => ?_, fun t ht => ?_, h.srest, fun j hjh hjl hjun => ?_⟩
    · rw [getD_set hils] at hl ⊢
      by_cases h3 : i = e.on
      · rw [if_pos h3]
      · rw [if_neg h3]
        by_cases h4 : i = j
        · subst h4
          rw [hi] at hj; injection hj with hj; subst hj
          exact hpre e he hbe
        · rw [if_neg h4] at hl
          exact h.closed j o' hj hl e he hbe
    · rw [getD_set hils] at hl
      by_cases h4 : i = j
      · subst h4; exact hin
      · rw [if_neg h4] at hl; exact h.sub j hl
    · rw [put_get h.size hdN]
      by_cases h4 : i = j
      · subst h4
        rw [hi] at hj'; injection hj' with hj'; subst hj'
        rw [hd] at hd'; injection hd' with hd'; subst hd'
        rw [if_pos rfl, hv]
      · rw [getD_set hils, if_neg h4] at hl
        rw [if_neg (fun e => h4 (planOk_dist hok hi hj' hd (by rw [hd', e])))]
        exact h.done j o' d' hj' hd' hl
    · have hne : d ≠ t := fun e => by
        have := ht i p.o hi (by rw [hd, e])
        rw [getD_set hils, if_pos rfl] at this; cases this
      rw [put_get h.size hdN, if_neg hne]
      refine h.rest t (fun j o' hj hd' => ?_)
      have := ht j o' hj hd'
      rw [getD_set hils] at this
      by_cases h4 : i = j
      · rw [if_pos h4] at this; cases this
      · rwa [if_neg h4] at this
    · rw [getD_set hils] at hjun
      by_cases h4 : i = j
      · rw [if_pos h4] at hjun; cases hjun
      · rw [if_neg h4] at hjun
        exact h.pendOk j hjh hjl hjun)
  unfold wpOpIn
  have ho : l.toArray[i]? = some p.o := by simpa using hi
  rw [ho]
  show (if _ then _ else _)
  rcases hst aj w haj h.hp with ⟨hw, hnd, hy⟩ | ⟨hw, hu⟩
  · rw [hag.2, if_pos hw]
    refine uponIn_of_yields hnd ?_ hnext
    unfold YieldsV at hy ⊢
    rw [hag.1]; exact hy
  · rw [hag.2, if_neg (by rw [hw]; simp)]
    refine ⟨fun _ _ => trivial, ?_⟩
    rw [← hu]
    exact hnext w (Below.refl _ _)

/-- One more is planned. -/
theorem Rt.plan (hok : planOk l = true) (h : Rt C l a0 his pend L O S listed a w as) {i d : Nat} {o : Oper} {v : Value} (hi : l[i]? = some o) (hd : o.dst = some d) (hdN : d < C.N) (hnew : i ∉ his) (hsee : seesOk l his i o = true) (hs : Steps1 C l.toArray O S o L v) :
    Rt C l a0 (i :: his) (⟨i, o, L, v⟩ :: pend) ((d, v) :: L) O S listed a w (as.put (some d) v) := by
  have hne : ∀ (j : Nat) (o' : Oper) (d' : Nat), j ∈ his → l[j]? = some o' → o'.dst = some d' → d ≠ d' := fun j o' d' hj hj' hd' e => hnew (by rw [planOk_dist hok hi hj' hd (by rw [hd', e])]; exact hj)
  refine ⟨h.sz, h.defers, h.size, h.hp, h.closed, h.reg.put hdN v, fun j hl => List.mem_cons_of_mem _ (h.sub j hl), fun j o' d' hj hd' hl => ?_, h.rest, fun t ht => ?_, fun j hj hjl hun => ?_⟩
  · rw [put_get h.reg.size hdN, if_neg (hne j o' d' (h.sub j hl) hj hd')]
    exact h.done j o' d' hj hd' hl
  · have hdt : d ≠ t := fun e => ht i o hi (by rw [hd, e]) (by simp)
    rw [put_get h.reg.size hdN, if_neg hdt]
    exact h.srest t (fun j o' hj hd' hin => ht j o' hj hd' (List.mem_cons_of_mem _ hin))
  · by_cases hji : j = i
    · subst hji
      have hv : (as.put (some d) v).tmps[d]? = some v := by rw [put_get h.reg.size hdN, if_pos rfl]
      have h1 : ∀ (t i : Nat) (o : Oper), i ∈ his → l[i]? = some o → o.dst = some t → as.tmps[t]? = (as.put (some d) v).tmps[t]? := fun t i' o' hin hi' hd' => by rw [put_get h.reg.size hdN, if_neg (hne i' o' t hin hi' hd')]
      exact ⟨⟨j, o, L, v⟩, List.mem_cons_self .., rfl, hi, ⟨d, hd, hdN, hv⟩, hs, his, as, h.reg, hsee, fun x hx => List.mem_cons_of_mem _ hx, h1, h.srest⟩
    · have hjh : j ∈ his := by
        rcases List.mem_cons.1 hj with h1 | h1
        · exact absurd h1 hji
        · exact h1
      obtain ⟨p, hp, hpi, hpo, ⟨d', hd', hdN', hv⟩, hst, hj', aj, haj, hsee', hsub, h1, h2⟩ := h.pendOk j hjh hjl hun
      refine ⟨p, by simp [hp], hpi, hpo, ⟨d', hd', hdN', ?_⟩, hst, hj', aj, haj, hsee', fun x hx => List.mem_cons_of_mem _ (hsub x hx), fun t i' o' hin hi' hd'' => ?_, h2⟩
      · rw [put_get h.reg.size hdN, if_neg (hne j p.o d' hjh hpo hd')]; exact hv
      · rw [put_get h.reg.size hdN, if_neg (hne i' o' t (hsub i' hin) hi' hd'')]
        exact h1 t i' o' hin hi' hd''

/-- One that writes has been carried out. -/
theorem Rt.fire (hok : planOk l = true) (h : Rt C l a0 his pend L O S listed a w as) {i : Nat} {o : Oper} {u : Value} {w' : World} {F' : Nat → Prop} {w0' : World} {L' : Regs} {O' S' : List Fact} (hi : l[i]? = some o) (hdN : ∀ d, o.dst = some d → d < C.N) (hnew : i ∉ his) (hpre : ∀ e ∈ o.after, Region.binds .any e = true → listed.getD e.on false = true)
    (hr : RegsOk C.N C.D L' (as.put o.dst u)) (hp' : Hp F' w0' O' S' w') (hlater : Later (C.mv F' w0') l pend o O' S') : Rt (C.mv F' w0') l a0 (i :: his) pend L' O' S' (listed.setIfInBounds i true) (a.put o.dst u) w' (as.put o.dst u) := by
  have hil : i < l.length := (List.getElem?_eq_some_iff.1 hi).1
  have hils : i < listed.size := by rw [h.sz]; exact hil
  have hne : ∀ (j : Nat) (o' : Oper) (d d' : Nat), o.dst = some d → j ∈ his → l[j]? = some o' → o'.dst = some d' → d ≠ d' := fun j o' d d' hd hj hj' hd' e => hnew (by rw [planOk_dist hok hi hj' hd (by rw [hd', e])]; exact hj)
  have hsame : ∀ (j : Nat) (o' : Oper) (d' : Nat), j ∈ his → l[j]? = some o' → o'.dst = some d' → (as.put o.dst u).tmps[d']? = as.tmps[d']? := fun j o' d' hj hj' hd' => by
    cases hd : o.dst with
    | none => rfl
    | some d => rw [put_get h.reg.size (hdN d hd), if_neg (hne j o' d d' hd hj hj' hd')]
  refine ⟨by simp [h.sz], ?_, ?_, hp', fun j o' hj hl e he hbe => ?_, hr, fun j hl => ?_, fun j o' d' hj hd' hl => ?_, fun t ht => ?_, fun t ht => ?_, fun j hj hjl hun => ?_⟩
  · cases hd : o.dst <;> simpa [Act.put] using h.defers
  · cases hd : o.dst <;> simpa [Act.put] using h.size
  · rw [getD_set hils] at hl ⊢
    by_cases h3 : i = e.on
    · rw [if_pos h3]
    · rw [if_neg h3]
      by_cases h4 : i = j
      · subst h4
        rw [hi] at hj; injection hj with hj; subst hj
        exact hpre e he hbe
      · rw [if_neg h4] at hl
        exact h.closed j o' hj hl e he hbe
  · rw [getD_set hils] at hl
    by_cases h4 : i = j
    · subst h4; simp
    · rw [if_neg h4] at hl; exact List.mem_cons_of_mem _ (h.sub j hl)
  · by_cases h4 : i = j
    · subst h4
      rw [hi] at hj; injection hj with hj; subst hj
      rw [hd', put_get h.size (hdN d' hd'), put_get h.reg.size (hdN d' hd')]
      simp
    · rw [getD_set hils, if_neg h4] at hl
      rw [hsame j o' d' (h.sub j hl) hj hd', ← h.done j o' d' hj hd' hl]
      cases hd : o.dst with
      | none => rfl
      | some d => rw [put_get h.size (hdN d hd), if_neg (hne j o' d d' hd (h.sub j hl) hj hd')]
  · have h5 : (a.put o.dst u).tmps[t]? = a.tmps[t]? := by
      cases hd : o.dst with
      | none => rfl
      | some d =>
        rw [put_get h.size (hdN d hd), if_neg]
        intro e
        have := ht i o hi (by rw [hd, e])
        rw [getD_set hils, if_pos rfl] at this; cases this
    rw [h5]
    refine h.rest t (fun j o' hj hd' => ?_)
    have := ht j o' hj hd'
    rw [getD_set hils] at this
    by_cases h4 : i = j
    · rw [if_pos h4] at this; cases this
    · rwa [if_neg h4] at this
  · have h5 : (as.put o.dst u).tmps[t]? = as.tmps[t]? := by
      cases hd : o.dst with
      | none => rfl
      | some d =>
        rw [put_get h.reg.size (hdN d hd), if_neg]
        intro e
        exact ht i o hi (by rw [hd, e]) (by simp)
    rw [h5]
    exact h.srest t (fun j o' hj hd' hin => ht j o' hj hd' (List.mem_cons_of_mem _ hin))
  · rw [getD_set hils] at hun
    by_cases h4 : i = j
    · rw [if_pos h4] at hun; cases hun
    · rw [if_neg h4] at hun
      have hjh : j ∈ his := by
        rcases List.mem_cons.1 hj with h1 | h1
        · exact absurd h1.symm h4
        · exact h1
      obtain ⟨p, hp, hpi, hpo, ⟨d', hd', hdN', hv⟩, hst, hj', aj, haj, hsee', hsub, h1, h2⟩ := h.pendOk j hjh hjl hun
      refine ⟨p, hp, hpi, hpo, ⟨d', hd', hdN', by rw [hsame j p.o d' hjh hpo hd']; exact hv⟩, ?_, hj', aj, haj, hsee', fun x hx => List.mem_cons_of_mem _ (hsub x hx), fun t i' o' hin hi' hd'' => ?_, h2⟩
      · rcases hlater p hp with hw | hs
        · exfalso
          obtain ⟨e, he, hbe⟩ := Array.any_eq_true'.1 hw
          simp only [Bool.and_eq_true, beq_iff_eq] at hbe
          have := hpre e he hbe.1
          rw [hbe.2, hpi, hun] at this; cases this
        · exact hs
      · rw [hsame i' o' t (hsub i' hin) hi' hd'']
        exact h1 t i' o' hin hi' hd''

theorem plan_any (hok : planOk l = true) : ∀ (fuel n : Nat) (F0 : Nat → Prop) (w00 : World) (his : List Nat) (pend : List Pend) (L : Regs) (O S : List Fact) (listed : Array Bool) (a : Act) (w : World) (as : Act), Plan (C.mv F0 w00) l Q n his pend L O S → Rt (C.mv F0 w00) l a0 his pend L O S listed a w as →
    ((List.range l.length).filter fun i => !listed.getD i true).length ≤ fuel → wpAnyIn (FR C.ro) 0 C.P .any l.toArray Q fuel listed a w := by
  have hget : ∀ {listed : Array Bool}, listed.size = l.length → ∀ i, i < l.length → listed.getD i true = listed.getD i false := by
    intro listed hsz i hi
    simp [Array.getD_eq_getD_getElem?, Array.getElem?_eq_getElem (show i < listed.size by omega)]
  have hready : ∀ (listed : Array Bool), listed.size = l.length → Region.ready .any l.toArray listed = [] → ∀ i, i < l.length → listed.getD i false = true := by
    intro listed hsz hr i
    induction i using Nat.strongRecOn with
    | _ i ih =>
      intro hi
      rcases hb : listed.getD i false with _ | _
      · exfalso
        have hmem : i ∈ Region.ready .any l.toArray listed := by
          refine mem_ready.2 ⟨by rw [hget hsz i hi]; exact hb, l[i], by simp [hi], fun e he hbd => ?_⟩
          have h3 := planOk_back hok (List.getElem?_eq_getElem hi) e he hbd
          exact ih e.on h3 (by omega)
        rw [hr] at hmem; cases hmem
      · rfl
  have hnone : ∀ (listed : Array Bool), listed.size = l.length → ((List.range l.length).filter fun i => !listed.getD i true).length ≤ 0 → ∀ i, i < l.length → listed.getD i false = true := by
    intro listed hsz hc i hi
    rcases hb : listed.getD i false with _ | _
    · exfalso
      have : i ∈ (List.range l.length).filter fun i => !listed.getD i true := by
        simp [List.mem_filter, hi]
        have := hget hsz i hi
        rw [hb] at this
        simpa [Array.getD_eq_getD_getElem?] using this
      have h2 := List.length_pos_of_mem this
      omega
    · rfl
  have hnoready : ∀ (listed : Array Bool), listed.size = l.length → (∀ i, i < l.length → listed.getD i false = true) → Region.ready .any l.toArray listed = [] := by
    intro listed hsz hall
    rcases hr : Region.ready .any l.toArray listed with _ | ⟨x, xs⟩
    · rfl
    · exfalso
      have hx : x ∈ Region.ready .any l.toArray listed := by rw [hr]; simp
      obtain ⟨h1, o, ho, _⟩ := mem_ready.1 hx
      have hxl : x < l.length := by
        have : l[x]? = some o := by simpa using ho
        exact (List.getElem?_eq_some_iff.1 this).1
      rw [hget hsz x hxl, hall x hxl] at h1
      cases h1
  have hend : ∀ (F0 : Nat → Prop) (w00 : World) (his : List Nat) (pend : List Pend) (L : Regs) (O S : List Fact) (listed : Array Bool) (a : Act) (w : World) (as : Act), EJ (C.mv F0 w00) Q .normal L O S → Rt (C.mv F0 w00) l a0 his pend L O S listed a w as → (∀ i, i < l.length → listed.getD i false = true) → Q .normal a w := by
    intro F0 w00 his pend L O S listed a w as hK hm hall
    refine hK a w ⟨hm.defers, hm.size, fun t v hv => ?_⟩ hm.hp
    rw [← hm.reg.look t v hv]
    by_cases hx : ∃ (j : Nat) (o : Oper), l[j]? = some o ∧ o.dst = some t
    · obtain ⟨j, o, hj, hd⟩ := hx
      exact hm.done j o t hj hd (hall j (List.getElem?_eq_some_iff.1 hj).1)
    · have hx' : ∀ (j : Nat) (o : Oper), l[j]? = some o → o.dst ≠ some t := fun j o hj hd => hx ⟨j, o, hj, hd⟩
      rw [hm.rest t (fun j o hj hd => absurd hd (hx' j o hj)), hm.srest t (fun j o hj hd => absurd hd (hx' j o hj))]
  have hcount : ∀ (listed : Array Bool) (i fuel : Nat), listed.size = l.length → i < l.length → listed.getD i true = false → ((List.range l.length).filter fun i => !listed.getD i true).length ≤ fuel + 1 →
      ((List.range l.length).filter fun j => !(listed.setIfInBounds i true).getD j true).length ≤ fuel := by
    intro listed i fuel hsz hil hun hc
    have hils : i < listed.size := by omega
    have := count_lt (fun i => !listed.getD i true) (fun j => !(listed.setIfInBounds i true).getD j true) (List.range l.length) (fun x _ hx2 => by
      rw [getD_setT hils] at hx2
      by_cases e : i = x
      · rw [if_pos e] at hx2; cases hx2
      · rwa [if_neg e] at hx2) i (List.mem_range.2 hil) (by rw [hun]; rfl) (by rw [getD_setT hils, if_pos rfl]; rfl)
    omega
  intro fuel
  induction fuel with
  | zero =>
    intro n
    induction n with
    | zero =>
      intro F0 w00 his pend L O S listed a w as hpl hm hc
      have hall := hnone listed hm.sz hc
      exact ⟨hnoready listed hm.sz hall, hend F0 w00 his pend L O S listed a w as hpl.2 hm hall⟩
    | succ n ihn =>
      intro F0 w00 his pend L O S listed a w as hpl hm hc
      rcases hpl with ⟨i, o, d, v, hi, hd, hdN, hnew, hsee, hs, hpl⟩ | ⟨⟨i, hil, hnew⟩, _⟩
      · exact ihn F0 w00 _ _ _ _ _ _ _ _ _ hpl (hm.plan hok hi hd hdN hnew hsee hs) hc
      · exact absurd (hm.sub i (hnone listed hm.sz hc i hil)) hnew
  | succ fuel ih =>
    intro n
    -- a planned one comes up
    have hexec : ∀ (n : Nat) (F0 : Nat → Prop) (w00 : World) (his : List Nat) (pend : List Pend) (L : Regs) (O S : List Fact) (listed : Array Bool) (a : Act) (w : World) (as : Act), Plan (C.mv F0 w00) l Q n his pend L O S → Rt (C.mv F0 w00) l a0 his pend L O S listed a w as →
        ((List.range l.length).filter fun i => !listed.getD i true).length ≤ fuel + 1 → ∀ i ∈ Region.ready .any l.toArray listed, i ∈ his →
        wpOpIn (FR C.ro) 0 C.P l.toArray Q i (wpAnyIn (FR C.ro) 0 C.P .any l.toArray Q fuel (listed.setIfInBounds i true)) a w := by
      intro n F0 w00 his pend L O S listed a w as hpl hm hc i hi hin
      obtain ⟨hun, o, ho, hpre⟩ := mem_ready.1 hi
      have hoi : l[i]? = some o := by simpa using ho
      have hil : i < l.length := (List.getElem?_eq_some_iff.1 hoi).1
      exact hm.exec hok hoi (by rw [← hget hm.sz i hil]; exact hun) hpre hin fun a' w' hm' => ih n F0 w00 _ _ _ _ _ _ _ _ _ hpl hm' (hcount listed i fuel hm.sz hil hun hc)
    induction n with
    | zero =>
      intro F0 w00 his pend L O S listed a w as hpl hm hc
      refine ⟨fun hr => hend F0 w00 his pend L O S listed a w as hpl.2 hm (hready listed hm.sz hr), fun i hi => ?_⟩
      obtain ⟨hun, o, ho, hpre⟩ := mem_ready.1 hi
      have hoi : l[i]? = some o := by simpa using ho
      exact hexec 0 F0 w00 his pend L O S listed a w as hpl hm hc i hi (hpl.1 i (List.getElem?_eq_some_iff.1 hoi).1)
    | succ n ihn =>
      intro F0 w00 his pend L O S listed a w as hpl hm hc
      have hpl0 := hpl
      rcases hpl with ⟨i, o, d, v, hi, hd, hdN, hnew, hsee, hs, hpl⟩ | ⟨⟨i0, hil0, hnew0⟩, hfire⟩
      · exact ihn F0 w00 _ _ _ _ _ _ _ _ _ hpl (hm.plan hok hi hd hdN hnew hsee hs) hc
      · refine ⟨fun hr => absurd (hm.sub i0 (hready listed hm.sz hr i0 hil0)) hnew0, fun i hi => ?_⟩
        by_cases hin : i ∈ his
        · exact hexec (n + 1) F0 w00 his pend L O S listed a w as hpl0 hm hc i hi hin
        · obtain ⟨hun, o, ho, hpre⟩ := mem_ready.1 hi
          have hoi : l[i]? = some o := by simpa using ho
          have hil : i < l.length := (List.getElem?_eq_some_iff.1 hoi).1
          have hopen : i ∈ openAt l his := by
            refine List.mem_filter.2 ⟨List.mem_range.2 hil, ?_⟩
            simp only [ho, Option.any_some, Bool.and_eq_true, Bool.not_eq_true', List.contains_eq_mem, decide_eq_false_iff_not]
            refine ⟨hin, Array.all_eq_true'.2 fun e he => ?_⟩
            cases hb : Region.binds .any e
            · rfl
            · simpa using hm.sub e.on (hpre e he hb)
          obtain ⟨o', ho', hg, hdN, hsee, hwp⟩ := hfire i hopen
          rw [hoi] at ho'; injection ho' with ho'; subst ho'
          have hunf : listed.getD i false = false := by rw [← hget hm.sz i hil]; exact hun
          have hag := exec_same (planOk_sel hok hoi).1 (hm.agree hok hunf hpre hsee (fun _ _ _ _ _ _ => rfl) hm.srest)
          unfold wpOpIn
          rw [ho]
          show (if _ then _ else _)
          rw [if_pos (by rw [hag.2]; exact hg as hm.reg)]
          have hwp := hwp as w hm.reg hm.hp
          unfold wpListIn at hwp
          rw [if_pos (hg as hm.reg)] at hwp
          refine wpIn_transfer hag.1 (planOk_sel hok hoi).2 (fun b w' hb => ?_) (fun u w' hb => ?_) ⟨hm.defers, hm.size⟩ hwp
          · obtain ⟨F', w0', L', O', S', hr, _⟩ := hb
            rw [hr.defers, hm.reg.defers]
          · obtain ⟨F', w0', L', O', S', hr, hp', hl, hpl'⟩ := hb
            exact ih n F' w0' _ _ _ _ _ _ _ _ _ hpl' (hm.fire hok hoi hdN hin hpre hr hp' hl) (hcount listed i fuel hm.sz hil hun hc)

/-- THE RULE. -/
theorem cj_plan {id : Nat} (n : Nat) (hm : C.P.follows .mixedOrders = true) (hok : planOk l = true) (h : Plan C l Q n [] [] L O S) : CJ C (.region id l.toArray true) Q L O S := by
  intro a w hr hp
  refine wpIn_region_any hm ?_
  have hfil : ((List.range l.length).filter fun i => !(Array.replicate l.toArray.size false).getD i true).length ≤ l.toArray.size := by
    have := List.length_filter_le (fun i => !(Array.replicate l.toArray.size false).getD i true) (List.range l.length)
    simpa using this
  have hno : ∀ j, (Array.replicate l.toArray.size false).getD j false = false := fun j => by
    simp only [Array.getD_eq_getD_getElem?, Array.getElem?_replicate]
    split <;> rfl
  refine plan_any (C := C) hok _ n C.F C.w0 [] [] L O S _ a _ a h ⟨by simp, hr.defers, hr.size, hp.grow ⟨rfl, rfl, rfl, Nat.le_refl _, fun _ _ => rfl⟩, fun j o hj hl => ?_, hr, fun j hl => ?_, fun _ _ _ _ _ _ => rfl, fun _ _ => rfl, fun _ _ => rfl, fun j hj => by cases hj⟩ hfil
  · rw [hno] at hl; cases hl
  · rw [hno] at hl; cases hl
end
end Go.Sx
namespace Go.Sx
open Go.RowKit

section
variable {C : Cx} {Q : Exit → Act → World → Prop} {L : Regs} {O S : List Fact} {ops : Array Oper} {rest : List Oper} {ty : TypeId} {pos : String} {aft : Array Edge}

/-- The first field lies where the struct lies. -/
theorem y_fa0 {dst : Option Tmp} {gu : Option (Nat × Bool)} {s f sz b k : Nat} {agg : Bool} {x : Operand} (h : FieldIs C.P s f 0 sz agg) (hx : val L x = some (.pointer (some ⟨b, k, none⟩))) : Yi C ⟨dst, .fieldAddr s x f, ty, pos, aft, gu⟩ L O S (.pointer (some ⟨b, k, none⟩)) := by
  have := y_fa (O := O) (S := S) (dst := dst) (ty := ty) (pos := pos) (aft := aft) (gu := gu) h hx
  simpa using this

/-! ### Calls of function values -/
theorem run_callV {a : Act} {x : Operand} {xs : List Operand} {vs : List Value} {ats : Array TypeId} {f : FuncId} {fi ca : Array Value} (hr : RegsOk C.N C.D L a) (hf : ∀ args w, (callFunc f args).run C.P w = .ok (.enter f args) w) (hx : val L x = some (.func (.func f) fi ca)) (hv : valsO L xs = some vs) (dst : Option Tmp) (gu : Option (Nat × Bool)) (w : World) :
    (execOp a.eval ⟨dst, .call ⟨.value x, xs.toArray, ats⟩, ty, pos, aft, gu⟩).run C.P w = .ok (.enter f (fi ++ vs.toArray ++ ca)) w := by
  have := valsO_eval hr xs vs hv
  simp [execOp, resolve, hr.val hx, Deferred.ofValue, invoke, hf, ← this]

theorem y_callV {dst : Option Tmp} {gu : Option (Nat × Bool)} {x : Operand} {xs : List Operand} {vs : List Value} {ats : Array TypeId} {f : FuncId} {fi ca : Array Value} {v : Value} (hf : ∀ args w, (callFunc f args).run C.P w = .ok (.enter f args) w) (hx : val L x = some (.func (.func f) fi ca)) (hv : valsO L xs = some vs)
    (hc : ∀ w, Hp C.F C.w0 O S w → Calls C.P f (fi ++ vs.toArray ++ ca) w (fun e w' => e = .returned v ∧ Grow w w')) : Yi C ⟨dst, .call ⟨.value x, xs.toArray, ats⟩, ty, pos, aft, gu⟩ L O S v :=
  ⟨(by intro c h; cases h), fun a w hr hp => by
    unfold YieldsV
    rw [run_callV hr hf hx hv]
    exact ⟨rfl, hc w hp⟩⟩

/-! ### Results in cells -/
theorem yi_loadVar {t : TypeId} {x : Operand} {a : Addr} {v : Value} {dst : Option Tmp} {gu : Option (Nat × Bool)} (hx : val L x = some (.pointer (some a))) (h : Yi C ⟨dst, .load t x, ty, pos, aft, gu⟩ L O S v) {ac : Act} {w : World} (hr : RegsOk C.N C.D L ac) (hp : Hp C.F C.w0 O S w) : (loadVar t a).run C.P w = .ok v w := by
  have := h.2 ac w hr hp
  unfold YieldsV at this
  simp only [execOp, hr.val hx, Instr.loadAt, Instr.sureAddr, Sem.run_bind, Sem.run_pure, Result.andThen_ok] at this
  generalize (loadVar t a).run C.P w = r at this
  cases r with
  | ok u w' =>
    simp only [Result.andThen_ok] at this
    obtain ⟨rfl, rfl⟩ := this
    rfl
  | halt _ _ => exact this.elim

theorem getQ_of_look {N : Nat} {D : List Deferred} {a : Act} (h : RegsOk N D L a) {t : Nat} {v : Value} (hk : look L t = some v) : a.tmps[t]?.getD undef = v := by rw [h.look t v hk]; rfl

theorem ej_retC1 {fn : Func} {R : Ending → World → Prop} {p : Tmp} {t : TypeId} {a : Addr} {v : Value} (hD : C.D = []) (h : fn.results = #[.cell p t]) (hx : val L (.tmp p) = some (.pointer (some a))) (hy : Yi C ⟨none, .load t (.tmp p), 0, "", #[], none⟩ L O S v) (hR : ∀ w, Hp C.F C.w0 O S w → R (.returned v) w) :
    EJ C (bodyPost C.P fn R) .ret L O S := fun ac w hr hp => ⟨hr.defers.trans hD, v, by
      have h1 := getQ_of_look hr hx
      simp [results, h, h1, asAddr, yi_loadVar hx hy hr hp], hR w hp⟩
theorem ej_retC2 {fn : Func} {R : Ending → World → Prop} {p u : Tmp} {t : TypeId} {a : Addr} {v x : Value} (hD : C.D = []) (h : fn.results = #[.cell p t, .tmp u]) (hx : val L (.tmp p) = some (.pointer (some a))) (hy : Yi C ⟨none, .load t (.tmp p), 0, "", #[], none⟩ L O S v) (hu : look L u = some x) (hR : ∀ w, Hp C.F C.w0 O S w → R (.returned (.tuple #[v, x])) w) :
    EJ C (bodyPost C.P fn R) .ret L O S := fun ac w hr hp => ⟨hr.defers.trans hD, _, by
      have h1 := getD_of_look hr hx
      rw [results_cell_tmp h, h1]
      simp [asAddr, yi_loadVar hx hy hr hp, getD_of_look hr hu], hR w hp⟩
theorem ej_ret3 {fn : Func} {R : Ending → World → Prop} {t u s : Tmp} {v x y : Value} (hD : C.D = []) (h : fn.results = #[.tmp t, .tmp u, .tmp s]) (hv : look L t = some v) (hx : look L u = some x) (hy : look L s = some y) (hR : ∀ w, Hp C.F C.w0 O S w → R (.returned (.tuple #[v, x, y])) w) :
    EJ C (bodyPost C.P fn R) .ret L O S := fun a w hr hp => ⟨hr.defers.trans hD, .tuple #[v, x, y], by simp [results, h, getQ_of_look hr hv, getQ_of_look hr hx, getQ_of_look hr hy], hR w hp⟩

/-! ### Operations that write, under a guard that is known -/
theorem oj_yes {o : Oper} {j dj : Nat} {b : Bool} (ho : o.guard = some (j, b)) (hj : (ops[j]?).bind (·.dst) = some dj) (hl : look L dj = some (.bool b)) (k : OJ C ops Q (⟨o.dst, o.op, o.type, o.pos, o.after, none⟩ :: rest) L O S) : OJ C ops Q (o :: rest) L O S := by
  intro a w hr hp
  have h := k a w hr hp
  unfold wpListIn at h ⊢
  rw [if_pos (by simp [Region.wanted])] at h
  rw [if_pos (by rw [wanted_of hr ho hj hl]; simp)]
  exact h
end

/-! ### The plan's rules -/
section
variable {C : Cx} {Q : Exit → Act → World → Prop} {l : List Oper} {n : Nat} {his : List Nat} {pend : List Pend} {L : Regs} {O S : List Fact}

theorem steps_yi {o : Oper} {ops : Array Oper} {v : Value} (hy : Yi C o L O S v) (hg : o.guard = none) : Steps1 C ops O S o L v := fun a w hr hp => .inl ⟨by simp [Region.wanted, hg], hy.1, hy.2 a w hr hp⟩

theorem pl_y (i : Nat) {o : Oper} {d : Nat} {v : Value} (hi : l[i]? = some o) (hy : Yi C o L O S v) (hg : o.guard = none) (hd : o.dst = some d) (hdN : Nat.blt d C.N = true) (hn : his.contains i = false) (hs : seesOk l his i o = true)
    (k : Plan C l Q n (i :: his) (⟨i, o, L, v⟩ :: pend) ((d, v) :: L) O S) : Plan C l Q (n + 1) his pend L O S :=
  .inl ⟨i, o, d, v, hi, hd, by simpa [Nat.blt_eq] using hdN, by simpa using hn, hs, steps_yi hy hg, k⟩

/-- One operation that writes, whichever comes up. -/
def Fires (C : Cx) (l : List Oper) (Q : Exit → Act → World → Prop) (n : Nat) (his : List Nat) (pend : List Pend) (L : Regs) (O S : List Fact) (i : Nat) : Prop :=
  ∃ o, l[i]? = some o ∧ (∀ a, RegsOk C.N C.D L a → Region.wanted o (yielded l.toArray a.tmps) = true) ∧ (∀ d, o.dst = some d → d < C.N) ∧ seesOk l his i o = true ∧
    OJ C l.toArray (NP C Q fun a' w' => ∃ F' w0' L' O' S', RegsOk C.N C.D L' a' ∧ Hp F' w0' O' S' w' ∧ Later (C.mv F' w0') l pend o O' S' ∧ Plan (C.mv F' w0') l Q n (i :: his) pend L' O' S') [o] L O S

theorem pl_w (is : List Nat) (i0 : Nat) (ho : openAt l his = is) (h0 : Nat.blt i0 l.length = true) (hn : his.contains i0 = false) (h : ∀ i ∈ is, Fires C l Q n his pend L O S i) : Plan C l Q (n + 1) his pend L O S :=
  .inr ⟨⟨i0, by simpa [Nat.blt_eq] using h0, by simpa using hn⟩, fun i hi => h i (by rw [← ho]; exact hi)⟩
theorem pl_w1 (i : Nat) (ho : openAt l his = [i]) (h0 : Nat.blt i l.length = true) (hn : his.contains i = false) (h : Fires C l Q n his pend L O S i) : Plan C l Q (n + 1) his pend L O S :=
  pl_w [i] i ho h0 hn (by simpa using h)
theorem pl_w2 (i j : Nat) (ho : openAt l his = [i, j]) (h0 : Nat.blt i l.length = true) (hn : his.contains i = false) (h : Fires C l Q n his pend L O S i) (h' : Fires C l Q n his pend L O S j) : Plan C l Q (n + 1) his pend L O S :=
  pl_w [i, j] i ho h0 hn (by simpa using ⟨h, h'⟩)
theorem pl_fire {i : Nat} {o : Oper} (hi : l[i]? = some o) (hg : o.guard = none) (hd : (match o.dst with | some d => Nat.blt d C.N | none => true) = true) (hs : seesOk l his i o = true)
    (h : OJ C l.toArray (NP C Q fun a' w' => ∃ F' w0' L' O' S', RegsOk C.N C.D L' a' ∧ Hp F' w0' O' S' w' ∧ Later (C.mv F' w0') l pend o O' S' ∧ Plan (C.mv F' w0') l Q n (i :: his) pend L' O' S') [o] L O S) : Fires C l Q n his pend L O S i :=
  ⟨o, hi, fun _ _ => by simp [Region.wanted, hg], fun d hd' => by rw [hd'] at hd; simpa [Nat.blt_eq] using hd, hs, h⟩
theorem ej_pl {n' : Nat} {his' : List Nat} {o : Oper} (hl : Later C l pend o O S) (k : Plan C l Q n' his' pend L O S) : EJ C (NP C Q fun a' w' => ∃ F' w0' L' O' S', RegsOk C.N C.D L' a' ∧ Hp F' w0' O' S' w' ∧ Later (C.mv F' w0') l pend o O' S' ∧ Plan (C.mv F' w0') l Q n' his' pend L' O' S') .normal L O S :=
  fun _ _ hr hp => ⟨C.F, C.w0, L, O, S, hr, hp, hl, k⟩
/-- The same after an operation from which on all is told anew. -/
theorem ej_plB {F' : Nat → Prop} {w0' : World} {n' : Nat} {his' : List Nat} {o : Oper} (hl : Later (C.mv F' w0') l pend o O S) (k : Plan (C.mv F' w0') l Q n' his' pend L O S) : EJ (C.mv F' w0') (NP C Q fun a' w' => ∃ F' w0' L' O' S', RegsOk C.N C.D L' a' ∧ Hp F' w0' O' S' w' ∧ Later (C.mv F' w0') l pend o O' S' ∧ Plan (C.mv F' w0') l Q n' his' pend L' O' S') .normal L O S :=
  fun _ _ hr hp => ⟨F', w0', L, O, S, hr, hp, hl, k⟩
theorem pl_end (h : (List.range l.length).all (his.contains ·) = true) (k : EJ C Q .normal L O S) : Plan C l Q 0 his pend L O S :=
  ⟨fun i hi => by simpa using List.all_eq_true.1 h i (List.mem_range.2 hi), k⟩
theorem lt_nil {o : Oper} : Later C l [] o O S := fun p hp => by cases hp
theorem lt_w {o : Oper} {p : Pend} (h : waits o p.i = true) (k : Later C l pend o O S) : Later C l (p :: pend) o O S := fun q hq => by
  rcases List.mem_cons.1 hq with e | e
  · subst e; exact .inl h
  · exact k q e
theorem lt_y {o o' : Oper} {i : Nat} {L' : Regs} {v : Value} (h : Yi C o' L' O S v) (hg : o'.guard = none) (k : Later C l pend o O S) : Later C l (⟨i, o', L', v⟩ :: pend) o O S := fun q hq => by
  rcases List.mem_cons.1 hq with e | e
  · subst e; exact .inr (steps_yi h hg)
  · exact k q e
end
end Go.Sx
namespace Go.Sx
open Go.RowKit

section
variable {α : Type} {C : Cx} {Q : Exit → Act → World → Prop} {L : Regs} {O S : List Fact} {ops : Array Oper} {rest : List Oper} {ty : TypeId} {pos : String} {aft : Array Edge} {dst : Option Tmp} {gu : Option (Nat × Bool)} {x : Operand}

/-- A block of one's own that was laid as a literal. -/
theorem reads_lit {sz b e : Nat} {enc : α → List Value} (xs : List α) {cs : List Value} [h : HasB O b (cellsB e cs)] (he : ∀ x, (enc x).length = sz) (hcs : xs.flatMap enc = cs) : Reads C O S sz enc (some ⟨b, 0, none⟩) xs := by
  intro w hp _
  refine ⟨_, rfl, fun i y j u hy hu => ?_⟩
  have hj : j < sz := by have := (List.getElem?_eq_some_iff.1 hu).1; rw [he] at this; exact this
  rw [addr_add, cell_of_row w b _ cs.toArray e (0, 0) (hp.hasB h.mem)]
  have := flatMap_get enc sz he xs i y j hy hj
  rw [hcs, hu] at this
  simpa using this

/-- The same facts in other words. -/
theorem cj_eqO {c : Code} (O' : List Fact) (h : O = O') (k : CJ C c Q L O' S) : CJ C c Q L O S := by subst h; exact k
end

/-! ### A function that is handed a block of its caller's -/
theorem Hp.own1 {F : Nat → Prop} {w0 w : World} {O S : List Fact} (hp : Hp F w0 O S w) {b : Nat} {ob : Obj} [h : HasB O b ob] : w.heap[b]? = some ob := hp.hasB h.mem
end Go.Sx
namespace Go.Sx
open Go.RowKit

/-- A package-level variable's cells, as far as they are known; nobody writes them. -/
def gl (g : Nat) (cs : List Value) : Fact := ⟨fun b => b = g, fun w => ∀ i v, cs[i]? = some v → w.cell? ⟨g, i, none⟩ = some v, fun h hP i v hv => (World.cell?_of_block (h g rfl)).trans (hP i v hv)⟩
class HasG (S : List Fact) (g : Nat) (cs : outParam (List Value)) : Prop where
  mem : gl g cs ∈ S
instance (priority := 900) HasG.tail (f : Fact) (S : List Fact) (g : Nat) (cs : List Value) [h : HasG S g cs] : HasG (f :: S) g cs := ⟨List.mem_cons_of_mem _ h.mem⟩
instance (priority := 1000) HasG.head (S : List Fact) (g : Nat) (cs : List Value) : HasG (gl g cs :: S) g cs := ⟨List.mem_cons_self ..⟩

section
variable {C : Cx} {Q : Exit → Act → World → Prop} {L : Regs} {O S : List Fact} {ops : Array Oper} {rest : List Oper} {ty : TypeId} {pos : String} {aft : Array Edge} {dst : Option Tmp} {gu : Option (Nat × Bool)} {t : TypeId} {x y : Operand}

/-- An element's place in an array. -/
theorem y_ixArr {s e n sz b k : Nat} {i : Int} {q : IntKind} (hu : C.P.underlying s = some (.array n e)) (hs : ∀ w, (sizeOf e).run C.P w = .ok sz w) (hx : val L x = some (.pointer (some ⟨b, k, none⟩))) (hy : val L y = some (.int q i)) (hi : 0 ≤ i ∧ i < n) :
    Yi C ⟨dst, .indexAddr s x y, ty, pos, aft, gu⟩ L O S (.pointer (some ⟨b, k + i.toNat * sz, none⟩)) :=
  yi_val (by intro c h; cases h) fun a w hr _ => by
    simp [execOp, hr.val hx, hr.val hy, Instr.indexAt, run_underlying hu, Instr.sureAddr, asIntOf, hi, hs, addr_add]

theorem cj_scope {c : Code} (hro : C.ro = none) (h : CJ C c (Exit.noGoto Q) L O S) : CJ C (.scope c) Q L O S := fun a w hr hp => by
  have h1 := h a w hr hp
  rw [hro] at h1 ⊢
  exact wpIn_FR_none.2 (wp_scope_straight (wpIn_FR_none.1 h1))
end

/-! ### Literals that are handed on -/
/-- A slice that lies in a block of its own. -/
def litS {α : Type} (b sz : Nat) (enc : α → List Value) (xs : List α) : Fact := sl (fun i => i = b) sz enc (some ⟨b, 0, none⟩) xs
section
variable {α : Type} {O S : List Fact} {w0 w : World} {b e sz : Nat} {enc : α → List Value} {cs : List Value}
theorem lit_cells (hb : w.heap[b]? = some (cellsB e cs)) (xs : List α) (he : ∀ x, (enc x).length = sz) (hcs : xs.flatMap enc = cs) (i : Nat) (x : α) (j : Nat) (u : Value) (hx : xs[i]? = some x) (hu : (enc x)[j]? = some u) : w.cell? ((⟨b, 0, none⟩ : Addr).add (i * sz + j)) = some u := by
  have hj : j < sz := by have := (List.getElem?_eq_some_iff.1 hu).1; rw [he] at this; exact this
  rw [addr_add, cell_of_row w b _ cs.toArray e (0, 0) hb]
  have := flatMap_get enc sz he xs i x j hx hj
  rw [hcs, hu] at this
  simpa using this
theorem Hp.lit (hp : Hp (fun i => i < w0.heap.size) w0 O S w) [h : HasB O b (cellsB e cs)] (xs : List α) (he : ∀ x, (enc x).length = sz) (hcs : xs.flatMap enc = cs) (hl : xs.length ≤ maxLen) :
    (litS b sz enc xs).P w ∧ ∀ i, (litS b sz enc xs).fp i → w0.heap.size ≤ i ∧ i < w.heap.size ∧ ∀ o ∈ ([] : List Fact), ¬ o.fp i := by
  have hb := (hp.own _ h.mem)
  refine ⟨⟨hl, fun _ => ⟨_, rfl, rfl, fun i x j u hx hu => lit_cells hb.1 xs he hcs i x j u hx hu⟩⟩, fun i hi => ?_⟩
  have : i = b := hi
  subst this
  exact ⟨Nat.le_of_not_lt (hb.2 i rfl).2, (hb.2 i rfl).1, by simp⟩
theorem Hp.rdLit {F : Nat → Prop} (hp : Hp F w0 O S w) [h : HasB O b (cellsB e cs)] (xs : List α) (he : ∀ x, (enc x).length = sz) (hcs : xs.flatMap enc = cs) (hl : xs.length ≤ maxLen) : Rd w sz enc (some ⟨b, 0, none⟩) xs :=
  ⟨hl, fun _ => ⟨_, rfl, (hp.own _ h.mem).2 b rfl |>.1, fun i x j u hx hu => lit_cells (hp.own _ h.mem).1 xs he hcs i x j u hx hu⟩⟩
instance (priority := 1050) HasSl.lit (S : List Fact) (b sz : Nat) (enc : α → List Value) (xs : List α) : HasSl (litS b sz enc xs :: S) (some ⟨b, 0, none⟩) (fun i => i = b) sz enc xs := ⟨List.mem_cons_self ..⟩
end
end Go.Sx
namespace Go.Sx
open Go.RowKit Go.ChangeShapes

section
variable {H : Type} {enc0 : TypeId × Value → H} {P : Program} {w : World} {base : Nat} {spare : Nat → Bool} {held : Bool}

theorem cells_get {a : Addr} {n : Nat} {cs : List Value} (h : w.cells? base a n = some cs) : cs.length = n ∧ ∀ (j : Nat) (u : Value), cs[j]? = some u → w.cell? (a.add j) = some u := by
  unfold World.cells? at h
  split at h
  · have hl := mapM_some_length h
    refine ⟨by simpa using hl, fun j u hj => ?_⟩
    have hjn : j < n := by have := (List.getElem?_eq_some_iff.1 hj).1; rw [hl] at this; simpa using this
    have := mapM_some_get h j j (by simp [hjn])
    rw [this]; exact hj
  · cases h

end
end Go.Sx
namespace Go.Sx
open Go.RowKit Go.ChangeShapes Go.WideShapes

section
variable {H : Type} {enc0 : TypeId × Value → H} {P : Program}
theorem below_trodAll {W W' : World} (hl : laidOutB P = true) (hb : Below W.heap.size W W') : ∀ {ts : List TypeId} {vs : List Value} {ds : List (DataW H)} {ps : List MemPlace}, (∀ t ∈ ts, P.readableRec t = true ∧ t < P.types.size) →
    DataW.TrodAll enc0 P W 0 (fun _ => true) true ts vs ds ps → (∀ x ∈ ps, x.block < W.heap.size) → DataW.TrodAll enc0 P W' 0 (fun b => decide (b < W.heap.size)) true ts vs ds ps
  | [], [], [], _, _, h, _ => h
  | _ :: _, _ :: _, _ :: _, _, ht, ⟨p, q, h1, h2, e⟩, hx =>
    ⟨p, q, Below.trod hl (ht _ (List.mem_cons_self ..)).1 (ht _ (List.mem_cons_self ..)).2 h1 hb (fun x hx' => hx x (by rw [e]; exact List.mem_append_left _ hx')),
      below_trodAll hl hb (fun t h => ht t (List.mem_cons_of_mem _ h)) h2 (fun x hx' => hx x (by rw [e]; exact List.mem_append_right _ hx')), e⟩

theorem law_post {f : Func} {s : ChangeSpec} {W W' : World} {args : Array Value} {ds gs : List (DataW H)} {before : List MemPlace} {tb : TypeId} (hW : DataW.Whole enc0 P f.params.toList s.vars false W args.toList ds gs before) (hv : s.vars = []) (hs : s.fn H (ds ++ gs) = { results := [.lit (.bool true)], args := ds })
    (hrt : f.resultTypes = #[tb]) (hbt : P.underlying tb = some .bool) (hl : laidOutB P = true) (hr : ∀ t ∈ f.params.toList, P.readableRec t = true ∧ t < P.types.size) (hb : Below W.heap.size W W') : s.post enc0 P f false true false false W args (.bool true) W' := by
  have hlt : ∀ p ∈ before, p.block < W.heap.size := fun p hp => hW.lt p hp
  have hW0 := hW
  obtain ⟨p, q, hA, hV, rfl, _, _⟩ := hW
  rw [hv] at hV
  obtain ⟨rfl, rfl⟩ := trodVars_none hV
  have hargs := below_trodAll hl hb hr hA (fun x hx => hlt x (List.mem_append_left _ hx))
  refine ⟨ds, [], p ++ [], [], p, [], hW0, ?_, ?_, ?_, World.keptBut_mono (fun x hx => ⟨hx, ?_⟩) (hb.frame (· ∈ p ++ [])), fun h => by cases h⟩
  · rw [hs, hrt]; exact trodAll_mk1 (shut_bool hbt true)
  · rw [hs]; exact hargs
  · rw [hs, hv]; exact hV
  · exact .inr (.inl (by simpa using hx))
end
end Go.Sx
namespace Go.Sx
open Go.RowKit Go.ChangeShapes Go.WideShapes

theorem list1' {α : Type} {l : List α} (h : l.length = 1) : ∃ a, l = [a] := by
  match l, h with
  | [a], _ => exact ⟨a, rfl⟩
theorem list2' {α : Type} {l : List α} (h : l.length = 2) : ∃ a b, l = [a, b] := by
  match l, h with
  | [a, b], _ => exact ⟨a, b, rfl⟩
theorem list3' {α : Type} {l : List α} (h : l.length = 3) : ∃ a b c, l = [a, b, c] := by
  match l, h with
  | [a, b, c], _ => exact ⟨a, b, c, rfl⟩
section
variable {H : Type} {enc0 : TypeId × Value → H} {P : Program} {w : World} {base : Nat} {spare : Nat → Bool} {held : Bool}
theorem okWide_array {t e : TypeId} {n : Nat} {r : Reach} {v : Value} (ht : P.underlying t = some (.array n e)) (h : Value.okWide P w r base t v) : ∃ cs, v = .agg cs ∧ cs.size = P.cellsOf t := by
  simp only [Value.okWide, ht] at h
  obtain ⟨cs, h1, h2, _⟩ := h
  exact ⟨cs, h1, h2⟩
/-- How much memory a datum holds: no slice and no string of it holds more than can be. -/
def Wok {H : Type} (P : Program) (t : TypeId) (d : DataW H) : Prop := (d.weights P t).all (· ≤ reachBytes) = true
theorem wparam {ts : List TypeId} {ds : List (DataW H)} {j : Nat} {t : TypeId} {d : DataW H} (h : (DataW.weightsEach P ts ds).all (· ≤ reachBytes) = true) (ht : ts[j]? = some t) (hd : ds[j]? = some d) : Wok P t d :=
  List.all_eq_true.2 fun n hn => List.all_eq_true.1 h n (DataW.weights_mem_each ht hd n hn)
theorem wslice {t e : TypeId} {fuel : Nat} {cs : List Value} {x : DataW H × List MemPlace} {B : Nat} (ht : P.underlying t = some (.slice e)) (hB : P.bytesOf e = B) (h : DataW.trod enc0 P w base spare held fuel t cs = some x) (hw : Wok P t x.1) {A : Option Addr} {n c : Nat} (hc : cs = [.slice A n c]) : n * B ≤ 140737488351232 := by
  subst hB
  rcases DataW.trod_slice ht h with ⟨hcs, _⟩ | ⟨a, len, cap, elems, rest, m, _, hcs, hx, _, _, _, hl, _⟩
  · rw [hc] at hcs; injection hcs with hcs; injection hcs with _ hn _; subst hn; simp
  · rw [hc] at hcs; injection hcs with hcs; injection hcs with _ hn _; subst hn
    rw [hx] at hw
    have h1 : (elems.length + rest.length) * P.bytesOf e ≤ reachBytes := by
      refine of_decide_eq_true (List.all_eq_true.1 hw _ ?_)
      simp [DataW.weights, ht]
    rw [← hl]
    have h2 : elems.length * P.bytesOf e ≤ (elems.length + rest.length) * P.bytesOf e := Nat.mul_le_mul_right _ (Nat.le_add_right _ _)
    exact Nat.le_trans h2 h1
end
end Go.Sx
namespace Go.Sx
open Go.RowKit

section
variable {C : Cx} {Q : Exit → Act → World → Prop} {L : Regs} {O S : List Fact}
theorem cj_lpi {c : Code} {X : Type} (Lc : Regs) (inv : X → Prop) (M : X → Regs) (Ox Sx : X → List Fact) (μ : X → Nat) (x0 : X) (h0 : inv x0) (hL : subR L (M x0 ++ Lc)) [hO : SubO (Ox x0) O] [hS : SubO (Sx x0) S]
    (round : ∀ x, inv x → CJ C c (Exit.then (fun a w => ∃ x', μ x' < μ x ∧ LoopI C inv (fun x => M x ++ Lc) Ox Sx x' a w) Q) (M x ++ Lc) (Ox x) (Sx x)) : CJ C (.loop c) Q L O S :=
  cj_loop inv (fun x => M x ++ Lc) Ox Sx μ x0 h0 hL hO.sub (fun _ hf => hS.sub.subset hf) round
theorem cj_lpic {c : Code} {X : Type} (Lc : Regs) (inv : X → Prop) (M : X → Regs) (μ : X → Nat) (x0 : X) (h0 : inv x0) (hL : subR L (M x0 ++ Lc))
    (round : ∀ x, inv x → CJ C c (Exit.then (fun a w => ∃ x', μ x' < μ x ∧ LoopI C inv (fun x => M x ++ Lc) (fun _ => O) (fun _ => S) x' a w) Q) (M x ++ Lc) O S) : CJ C (.loop c) Q L O S :=
  cj_loop inv (fun x => M x ++ Lc) (fun _ => O) (fun _ => S) μ x0 h0 hL (.refl _) (fun _ hf => hf) round
theorem cj_cuti {x y : Code} {X : Type} (Lc : Regs) (_ : subR L Lc) (inv : X → Prop) (M : X → Regs) (Ox Sx : X → List Fact)
    (h1 : CJ C x (Exit.then (fun a w => ∃ x, LoopI C inv (fun x => M x ++ Lc) Ox Sx x a w) Q) L O S) (h2 : ∀ x, inv x → CJ C y Q (M x ++ Lc) (Ox x) (Sx x)) : CJ C (.seq x y) Q L O S :=
  cj_cut inv (fun x => M x ++ Lc) Ox Sx h1 h2
theorem cj_cutic {x y : Code} {X : Type} (Lc : Regs) (_ : subR L Lc) (inv : X → Prop) (M : X → Regs)
    (h1 : CJ C x (Exit.then (fun a w => ∃ x, LoopI C inv (fun x => M x ++ Lc) (fun _ => O) (fun _ => S) x a w) Q) L O S) (h2 : ∀ x, inv x → CJ C y Q (M x ++ Lc) O S) : CJ C (.seq x y) Q L O S :=
  cj_cut inv (fun x => M x ++ Lc) (fun _ => O) (fun _ => S) h1 h2
end
end Go.Sx
namespace Go.Sx
open Go.RowKit

/-- What an iterator keeps: it hands over the elements of the list, one by one, as long as it is told to go on; whatever holds between two rounds ('J'), and is not felled by new blocks, holds then. -/
def Iter {α : Type} (P : Program) (gf : Nat) (lb : Array Value) (encs : α → List Value) (xs : List α) (Sit : List Fact) : Prop :=
  ∀ (l : Nat) (J Jx : Nat → World → Prop) (W : World), (∀ k W W', J k W → Grow W W' → J k W') → (∀ k W W', Jx k W → Grow W W' → Jx k W') → (∀ k W, J k W → ∀ g ∈ Sit, g.P W ∧ ∀ b, g.fp b → b < W.heap.size) →
    (∀ k x W, xs[k]? = some x → J k W → YieldAt (FR none) 0 P l (encs x).toArray W (fun e W' => (e = .returned (.bool true) ∧ J (k + 1) W') ∨ (e = .returned (.bool false) ∧ Jx (k + 1) W'))) → J 0 W →
    Calls P gf (#[.func (.yield l) #[] #[]] ++ lb) W (fun e W' => (∃ v, e = .returned v) ∧ (J xs.length W' ∨ ∃ k, Jx k W'))

theorem Hp.put {F : Nat → Prop} {w0 w : World} {b : Nat} {ob ob' : Obj} {O O' S : List Fact} (h : Hp F w0 O S w) (hr : Rep O (ownB b ob) (ownB b ob') O') : Hp F w0 O' S (w.putObj b ob') := by
  have hb : b < w.heap.size := ((h.own _ hr.mem).2 b rfl).1
  refine h.write hr rfl rfl rfl (by simp [World.putObj]) (fun c hc hne => ?_) ?_ (fun c hc => ?_)
  · exact World.putObj_heap_other (fun e => hne (show c = b from e))
  · exact World.putObj_heap_same hb
  · have : c = b := hc
    subst this
    exact ⟨by simpa [World.putObj] using hb, .inl rfl⟩

theorem Hp.at {F : Nat → Prop} {w0 w : World} {b : Nat} {ob : Obj} {O S : List Fact} (h : Hp F w0 O S w) (hm : ownB b ob ∈ O) : w.heap[b]? = some ob := (h.own _ hm).1

/-- The temporaries of a round. -/
def parR : List (Nat × Value) → Regs → Regs
  | [], L => L
  | p :: r, L => parR r (p :: L)
theorem parR_ok {N : Nat} {D : List Deferred} : ∀ (ps : List (Nat × Value)) (L : Regs) (t : Array Value), (∀ p ∈ ps, p.1 < N) → RegsOk N D L ⟨t, D⟩ → RegsOk N D (parR ps L) ⟨ps.foldl (fun t p => t.setIfInBounds p.1 p.2) t, D⟩
  | [], _, _, _, h => h
  | p :: r, L, t, hN, h => by
    refine parR_ok r (p :: L) (t.setIfInBounds p.1 p.2) (fun q hq => hN q (List.mem_cons_of_mem _ hq)) ?_
    have := h.put (hN p (List.mem_cons_self ..)) p.2
    exact this

section
variable {P : Program} {F : Nat → Prop} {w0 : World} {N : Nat} {S : List Fact}
/-- Within a round of loop l. -/
abbrev CR (P : Program) (F : Nat → Prop) (w0 : World) (N l : Nat) : Cx := ⟨P, some l, F, w0, N, []⟩

/-- How a round's body may be left. -/
def BodyQ {Y Z : Type} (F : Nat → Prop) (w0 : World) (S : List Fact) (l Db : Nat) (r1 : Obj) (inv : Y → Prop) (Ox : Y → List Fact) (cz : Z → Code) (Oz : Z → List Fact) : Exit → Act → World → Prop
  | .normal, _, w => ∃ y, inv y ∧ Hp F w0 (ownB l r1 :: ownB Db (.deferred (some [])) :: Ox y) S w
  | .ret, _, w => ∃ z, cz z = .ret ∧ Hp F w0 (ownB l r1 :: ownB Db (.deferred (some [])) :: Oz z) S w
  | .exit id, _, w => ∃ z, cz z = .exit id ∧ Hp F w0 (ownB l r1 :: ownB Db (.deferred (some [])) :: Oz z) S w
  | _, _, _ => False
/-- Between the assignment and the body. -/
def BegQ (C : Cx) (S : List Fact) (l : Nat) (r0 r1 : Obj) (body : Code) (Q : Exit → Act → World → Prop) : Exit → Act → World → Prop :=
  NQ fun a w => ∃ L O O', RegsOk C.N C.D L a ∧ Hp C.F C.w0 O S w ∧ Rep O (ownB l r0) (ownB l r1) O' ∧ CJ C body Q L O' S

theorem ej_beg {C : Cx} {l : Nat} {r0 r1 : Obj} {body : Code} {Q : Exit → Act → World → Prop} {L : Regs} {O O' : List Fact} [hu : UpdB O l r0 r1 O'] (h : CJ C body Q L O' S) : EJ C (BegQ C S l r0 r1 body Q) .normal L O S :=
  fun _ _ hr hp => ⟨L, O, O', hr, hp, hu.rep, h⟩
theorem ej_rd {Y Z : Type} {C : Cx} {l Db : Nat} {r1 : Obj} {inv : Y → Prop} {Ox : Y → List Fact} {cz : Z → Code} {Oz : Z → List Fact} {L : Regs} {O : List Fact} (y : Y) (hi : inv y) [hO : SubO (ownB l r1 :: ownB Db (.deferred (some [])) :: Ox y) O] :
    EJ C (BodyQ C.F C.w0 S l Db r1 inv Ox cz Oz) .normal L O S := fun _ _ _ hp => ⟨y, hi, hp.sub hO.sub (fun _ h => h)⟩
theorem ej_rdx {Y Z : Type} {C : Cx} {l Db : Nat} {r1 : Obj} {inv : Y → Prop} {Ox : Y → List Fact} {cz : Z → Code} {Oz : Z → List Fact} {L : Regs} {O : List Fact} {id : Nat} (z : Z) (hz : cz z = .exit id) [hO : SubO (ownB l r1 :: ownB Db (.deferred (some [])) :: Oz z) O] :
    EJ C (BodyQ C.F C.w0 S l Db r1 inv Ox cz Oz) (.exit id) L O S := fun _ _ _ hp => ⟨z, hz, hp.sub hO.sub (fun _ h => h)⟩
theorem ej_rdr {Y Z : Type} {C : Cx} {l Db : Nat} {r1 : Obj} {inv : Y → Prop} {Ox : Y → List Fact} {cz : Z → Code} {Oz : Z → List Fact} {L : Regs} {O : List Fact} (z : Z) (hz : cz z = .ret) [hO : SubO (ownB l r1 :: ownB Db (.deferred (some [])) :: Oz z) O] :
    EJ C (BodyQ C.F C.w0 S l Db r1 inv Ox cz Oz) .ret L O S := fun _ _ _ hp => ⟨z, hz, hp.sub hO.sub (fun _ h => h)⟩

end

/-! ### A function that holds such a loop -/
theorem enter_pureM {P : Program} {f : FuncId} {fn : Func} {c : Code} {args : List Value} {w : World} {R : Ending → World → Prop} (S : List Fact)
    (hf : P.funcs[f]? = some fn) (hb : fn.body = some c) (hn : args.length ≤ fn.ntmps) (hS : ∀ g ∈ S, g.P w ∧ ∀ b, g.fp b → b < w.heap.size)
    (h : CJ ⟨P, none, fun b => b < w.heap.size, w, fn.ntmps, []⟩ c (bodyPostM (FR none) 0 P fn R) (regsOf 0 args) [] S) : Calls P f args.toArray w R := by
  refine callsIn_FR.1 (callsIn_of_wp_marks (F := FR none) (n := 0) hf hb trivial (h _ w ⟨rfl, ?_, fun k v hk => ?_⟩ ⟨rfl, rfl, rfl, Nat.le_refl _, fun b hb => ⟨hb, rfl⟩, by simp, by simp, fun g hg => ⟨(hS g hg).1, (hS g hg).2, by simp⟩⟩))
  · simp; omega
  · obtain ⟨_, h2⟩ := look_regsOf args 0 k v hk
    simp only [Nat.sub_zero] at h2
    have hk' : k < args.length := (List.getElem?_eq_some_iff.1 h2).1
    rw [Array.getElem?_append_left (by simpa using hk')]
    simpa using h2

section
variable {C : Cx} {L : Regs} {O S : List Fact}
theorem ej_retM1 {fn : Func} {R : Ending → World → Prop} {t : Tmp} {v : Value} {Db : Nat} {O' : List Fact} (hD : C.D = [⟨.collected Db, #[]⟩]) (h : fn.results = #[.tmp t]) (hv : look L t = some v) [hu : UpdB O Db (.deferred (some [])) (.deferred none) O'] (hR : ∀ w, Hp C.F C.w0 O' S w → R (.returned v) w) :
    EJ C (bodyPostM (FR none) 0 C.P fn R) .ret L O S := fun a w hr hp => by
  show LeavesInM _ _ _ _ _ _ _ _ _
  rw [hr.defers, hD]
  refine ⟨by simp, .inl ⟨Db, _, rfl, run_takeDeferred (hp.at hu.rep.mem), ?_⟩⟩
  exact ⟨v, by rw [results_tmp h, getD_of_look hr hv], hR _ (hp.put hu.rep)⟩
end

/-! ### The iterator's side -/
/-- The same, from this world on. -/
abbrev Cx.rb (C : Cx) (W : World) : Cx := ⟨C.P, C.ro, fun b => b < W.heap.size, W, C.N, C.D⟩
theorem Hp.base (W : World) (S : List Fact) (hS : ∀ g ∈ S, g.P W ∧ ∀ b, g.fp b → b < W.heap.size) : Hp (fun b => b < W.heap.size) W [] S W :=
  ⟨rfl, rfl, rfl, Nat.le_refl _, fun b hb => ⟨hb, rfl⟩, by simp, by simp, fun g hg => ⟨(hS g hg).1, (hS g hg).2, by simp⟩⟩

section
variable {C : Cx} {Q : Exit → Act → World → Prop} {L : Regs} {O S : List Fact} {ops : Array Oper} {rest : List Oper} {ty : TypeId} {pos : String} {aft : Array Edge} {d : Nat}
theorem oj_yield {l : Nat} {x : Operand} {xs : List Operand} {vs : List Value} {ats : Array TypeId} {T U : World → Prop} (S' : List Fact) (hro : C.ro = none) (hx : val L x = some (.func (.yield l) #[] #[])) (hv : valsO L xs = some vs)
    (hy : ∀ w, Hp C.F C.w0 O S w → YieldAt (FR none) 0 C.P l vs.toArray w (fun e W' => (e = .returned (.bool true) ∧ T W') ∨ (e = .returned (.bool false) ∧ U W'))) (hdN : Nat.blt d C.N = true)
    (k1 : ∀ W', T W' → (∀ g ∈ S', g.P W' ∧ ∀ b, g.fp b → b < W'.heap.size) ∧ OJ (C.rb W') ops Q rest ((d, .bool true) :: L) [] S') (k2 : ∀ W', U W' → OJ (C.rb W') ops Q rest ((d, .bool false) :: L) [] []) :
    OJ C ops Q (⟨some d, .call ⟨.value x, xs.toArray, ats⟩, ty, pos, aft, none⟩ :: rest) L O S := by
  intro a w hr hp
  have hdN' : d < C.N := by simpa [Nat.blt_eq] using hdN
  have hvs := valsO_eval hr xs vs hv
  obtain ⟨fn, tmps, assign, body, hrun, hR⟩ := hy w hp
  unfold wpListIn
  rw [if_pos (by simp [Region.wanted])]
  refine ⟨fun _ _ => trivial, ?_⟩
  rw [Oper.semAt_eq _ _ _ (by intro c h; cases h)]
  have hr2 : (execOp a.eval ⟨some d, .call ⟨.value x, xs.toArray, ats⟩, ty, pos, aft, none⟩).run C.P w = .ok (.round l fn tmps assign body) w := by
    rw [← hvs] at hrun
    simp [execOp, resolve, hr.val hx, Deferred.ofValue, invoke, hrun]
  rw [hr2]
  refine ⟨(fun h => by cases h), ?_⟩
  have hF : FR C.ro = FR none := by rw [hro]
  rw [hF]
  refine RoundIn.mono hR fun e W' he => ?_
  rcases he with ⟨rfl, hT⟩ | ⟨rfl, hU⟩
  · have := (k1 W' hT).2 (a.put (some d) (.bool true)) W' (hr.put hdN' _) (Hp.base W' S' (k1 W' hT).1)
    rw [← hF]; exact this
  · have := (k2 W' hU) (a.put (some d) (.bool false)) W' (hr.put hdN' _) (Hp.base W' [] (by simp))
    rw [← hF]; exact this

theorem cj_loopW {c : Code} {X : Type} (I : X → Act → World → Prop) (μ : X → Nat) (x0 : X) (h0 : ∀ a w, RegsOk C.N C.D L a → Hp C.F C.w0 O S w → I x0 a w)
    (round : ∀ x a w, I x a w → c.wpIn (FR C.ro) 0 C.P (Exit.then (fun a w => ∃ x', μ x' < μ x ∧ I x' a w) Q) a w) : CJ C (.loop c) Q L O S := by
  intro a w hr hp b k cs hro hb hroom
  have key : ∀ n x a w, μ x = n → I x a w →
      ∃ e a' w', Q e a' w' ∧ ArrivesIn (Machine.fenced C.P (FR C.ro)) C.P (lone (b.atR a (.code c :: .inLoop c :: k)) cs w) b k cs e a' w' := by
    intro n
    induction n using Nat.strongRecOn with
    | _ n ih =>
      intro x a w hn hI
      obtain ⟨e, a₁, w₁, hq, harr⟩ := round x a w hI b (.inLoop c :: k) cs hro hb hroom
      cases e with
      | normal =>
        obtain ⟨x', hlt, hI'⟩ := hq
        obtain ⟨e₂, a₂, w₂, hq₂, harr₂⟩ := ih (μ x') (hn ▸ hlt) x' a₁ w₁ rfl hI'
        exact ⟨e₂, a₂, w₂, hq₂, .of_steps (StepsIn.trans harr (.one (fenced_calm hb hroom rfl) stepR_inLoop)) harr₂⟩
      | exit id => exact ⟨_, a₁, w₁, hq, .pass (x := .inLoop c) rfl (fun _ _ => .inl (by simp)) harr⟩
      | goto l => exact ⟨_, a₁, w₁, hq, .pass (x := .inLoop c) rfl (fun _ _ => .inl (by simp)) harr⟩
      | ret => exact ⟨_, a₁, w₁, hq, .pass (x := .inLoop c) rfl (fun _ _ => .inl (by simp)) harr⟩
      | panic ch => exact ⟨_, a₁, w₁, hq, .pass (x := .inLoop c) rfl (fun _ _ => .inl (by simp)) harr⟩
      | outgrown => exact ⟨_, a₁, w₁, hq, .pass (x := .inLoop c) rfl (fun _ _ => .inl (by simp)) harr⟩
  obtain ⟨e, a', w', hq, harr⟩ := key _ x0 a w rfl (h0 a w hr hp)
  exact ⟨e, a', w', hq, .of_steps (.one (fenced_calm hb hroom rfl) stepR_loop) harr⟩

/-- A loop whose rounds begin anew: what holds of the world is said by 'J' (it is not felled by new blocks), and the facts S hold wherever J does. -/
def LoopB (C : Cx) {X : Type} (inv : X → Prop) (Lx : X → Regs) (J : X → World → Prop) (x : X) (a : Act) (w : World) : Prop := inv x ∧ RegsOk C.N C.D (Lx x) a ∧ J x w
theorem cj_loopB {c : Code} {X : Type} (inv : X → Prop) (Lx : X → Regs) (J : X → World → Prop) (S' : List Fact) (μ : X → Nat) (x0 : X) (h0 : inv x0) (hL : subR L (Lx x0)) (hJ0 : ∀ w, Hp C.F C.w0 O S w → J x0 w) (hJS : ∀ x w, J x w → ∀ g ∈ S', g.P w ∧ ∀ b, g.fp b → b < w.heap.size)
    (round : ∀ x W, inv x → J x W → CJ (C.rb W) c (Exit.then (fun a w => ∃ x', μ x' < μ x ∧ LoopB C inv Lx J x' a w) Q) (Lx x) [] S') : CJ C (.loop c) Q L O S :=
  cj_loopW (LoopB C inv Lx J) μ x0 (fun _ w hr hp => ⟨h0, hr.subR hL, hJ0 w hp⟩) fun x a w ⟨hi, hr, hJ⟩ => round x w hi hJ a w hr (Hp.base w S' (hJS x w hJ))
theorem ej_nxB {X : Type} {inv : X → Prop} {Lx : X → Regs} {J : X → World → Prop} {μ : X → Nat} {m : Nat} {W : World} (x' : X) (hm : μ x' < m) (hi : inv x') (hL : subR L (Lx x')) (hJ : ∀ w, Grow W w → J x' w) :
    EJ (C.rb W) (Exit.then (fun a w => ∃ x', μ x' < m ∧ LoopB C inv Lx J x' a w) Q) .normal L O S := fun _ w hr hp => ⟨x', hm, hi, hr.subR hL, hJ w hp.below⟩
end

/-! ### Blocks that are only read -/
class HasBS (S : List Fact) (b : Nat) (ob : outParam Obj) : Prop where
  mem : ownB b ob ∈ S
instance (priority := 900) HasBS.tail (f : Fact) (S : List Fact) (b : Nat) (ob : Obj) [h : HasBS S b ob] : HasBS (f :: S) b ob := ⟨List.mem_cons_of_mem _ h.mem⟩
instance (priority := 1000) HasBS.head (S : List Fact) (b : Nat) (ob : Obj) : HasBS (ownB b ob :: S) b ob := ⟨List.mem_cons_self ..⟩
section
variable {C : Cx} {Q : Exit → Act → World → Prop} {L : Regs} {O S : List Fact} {ops : Array Oper} {rest : List Oper} {ty : TypeId} {pos : String} {aft : Array Edge} {dst : Option Tmp} {gu : Option (Nat × Bool)} {t : TypeId} {x : Operand}
theorem y_loadS1 {b k e : Nat} {cs : List Value} {v : Value} [h : HasBS S b (cellsB e cs)] (ha : ∀ w, (isAgg t).run C.P w = .ok false w) (hx : val L x = some (.pointer (some ⟨b, k, none⟩))) (hv : cs[k]? = some v) :
    Yi C ⟨dst, .load t x, ty, pos, aft, gu⟩ L O S v :=
  yi_val (by intro c h; cases h) fun a w hr hp => by
    have hc : w.cell? ⟨b, k, none⟩ = some v := by rw [cell_of_row w b k cs.toArray e (0, 0) ((hp.shared _ h.mem).1)]; simpa using hv
    simp [execOp, hr.val hx, Instr.loadAt, Instr.sureAddr, loadVar, ha, hc]
theorem y_loadSN {b k e n : Nat} {cs vs : List Value} [h : HasBS S b (cellsB e cs)] (ha : ∀ w, (isAgg t).run C.P w = .ok true w) (hs : ∀ w, (sizeOf t).run C.P w = .ok n w) (hx : val L x = some (.pointer (some ⟨b, k, none⟩))) [hv : Tk n k cs vs] :
    Yi C ⟨dst, .load t x, ty, pos, aft, gu⟩ L O S (.agg vs.toArray) :=
  yi_val (by intro c h; cases h) fun a w hr hp => by
    have hl : (loadCells ⟨b, k, none⟩ n).run C.P w = .ok vs.toArray w := by
      rw [← hv.len]
      refine run_loadCells_list (P := C.P) w ⟨b, k, none⟩ vs fun j v hj => ?_
      have hjn : j < n := by have := (List.getElem?_eq_some_iff.1 hj).1; rw [hv.len] at this; exact this
      rw [addr_add, cell_of_row w b (k + j) cs.toArray e (0, 0) ((hp.shared _ h.mem).1)]
      simpa [hv.eq j hjn] using hj
    simp [execOp, hr.val hx, Instr.loadAt, Instr.sureAddr, loadVar, ha, hs, hl]

/-- A call that turns the elements of a slice of one's own, and nothing else. -/
theorem oj_mutOw {α : Type} {f : FuncId} {xs : List Operand} {vs : List Value} {ats : Array TypeId} {d : Nat} {e sz c : Nat} {enc : α → List Value} {A : Option Addr} {us : List α} {O' : List Fact} {v : Value} (us' : List α) (hf : ∀ args w, (callFunc f args).run C.P w = .ok (.enter f args) w) (hv : valsO L xs = some vs)
    [hu : UpdOw O A e sz enc c us (ow e sz enc A c us') O']
    (hc : ∀ w, Hp C.F C.w0 O S w → (ow e sz enc A c us).P w → Calls C.P f vs.toArray w (fun en w' => en = .returned v ∧ Mut (ow e sz enc A c us) w w' ∧ (ow e sz enc A c us').P w')) (hdN : Nat.blt d C.N = true)
    (k : OJ C ops Q rest ((d, v) :: L) O' S) : OJ C ops Q (⟨some d, .call ⟨.value (.func f), xs.toArray, ats⟩, ty, pos, aft, none⟩ :: rest) L O S := by
  intro a w hr hp
  have hdN' : d < C.N := by simpa [Nat.blt_eq] using hdN
  unfold wpListIn
  rw [if_pos (by simp [Region.wanted])]
  refine ⟨fun _ _ => trivial, ?_⟩
  rw [Oper.semAt_eq _ _ _ (by intro c h; cases h), run_call hr hf hv]
  refine ⟨fun h => (by cases h), callsIn_FR.2 ((hc w hp (hp.own _ hu.rep.mem).1).mono fun en w' hx => ?_)⟩
  obtain ⟨rfl, hm, hP⟩ := hx
  refine k _ w' (hr.put hdN' _) ?_
  refine hp.write hu.rep hm.os hm.tape hm.output hm.size hm.same hP (fun b hb => ?_)
  have hb' : (Value.slice A us'.length c).ownBlock = some b := hb
  have hb2 : (Value.slice A us.length c).ownBlock = some b := by
    rw [← hb']; cases A <;> rfl
  exact ⟨Nat.lt_of_lt_of_le ((hp.own _ hu.rep.mem).2 b hb2).1 hm.size, .inl hb2⟩
end
end Go.Sx
namespace Go.Sx
open Go.RowKit

class RepB (O : List Fact) (b : Nat) (ob : outParam Obj) (f' : Fact) (O' : outParam (List Fact)) : Prop where
  rep : Rep O (ownB b ob) f' O'
instance (priority := 900) RepB.tail (f : Fact) (O O' : List Fact) (b : Nat) (ob : Obj) (f' : Fact) [h : RepB O b ob f' O'] : RepB (f :: O) b ob f' (f :: O') := ⟨.tail _ _ _ _ _ h.rep⟩
instance (priority := 1000) RepB.head (O : List Fact) (b : Nat) (ob : Obj) (f' : Fact) : RepB (ownB b ob :: O) b ob f' (f' :: O) := ⟨.head _ _ _⟩

section
variable {α : Type} {C : Cx} {Q : Exit → Act → World → Prop} {L : Regs} {O O' S : List Fact} {ops : Array Oper} {rest : List Oper}
theorem hp_litOw {F : Nat → Prop} {w0 w : World} (hp : Hp F w0 O S w) {b e sz c : Nat} {enc : α → List Value} {cs : List Value} (xs : List α) [h : RepB O b (cellsB e cs) (ow e sz enc (some ⟨b, 0, none⟩) c xs) O'] (hl : cs.length = xs.length * sz) (hcs : xs.flatMap enc = cs) (hc : xs.length = c) (hm : c ≤ maxLen) : Hp F w0 O' S w := by
  have hown := hp.own _ h.rep.mem
  refine hp.write h.rep rfl rfl rfl (Nat.le_refl _) (fun _ _ _ => rfl) ?_ (fun i hi => ?_)
  · show w.ownsRow 0 e sz _ _ _
    refine ⟨by rw [hcs, hl], .inr ⟨b, c, cs.toArray, rfl, Nat.zero_le _, hown.1, Nat.le_of_eq hc, hm, by simp [hl, hc], ?_⟩⟩
    rw [hcs, ← hl]; simp
  · have hi' : some b = some i := hi
    injection hi' with hi'
    subst hi'
    exact ⟨(hown.2 b rfl).1, .inl rfl⟩
theorem oj_litOw {b e sz c : Nat} {enc : α → List Value} {cs : List Value} (xs : List α) [h : RepB O b (cellsB e cs) (ow e sz enc (some ⟨b, 0, none⟩) c xs) O'] (hl : cs.length = xs.length * sz) (hcs : xs.flatMap enc = cs) (hc : xs.length = c) (hm : c ≤ maxLen)
    (k : OJ C ops Q rest L O' S) : OJ C ops Q rest L O S := fun a w hr hp => k a w hr (hp_litOw (b := b) (e := e) hp xs hl hcs hc hm)
theorem Hp.bs {F : Nat → Prop} {w0 w : World} (hp : Hp F w0 O S w) {b : Nat} {ob : Obj} [h : HasBS S b ob] : w.heap[b]? = some ob := (hp.shared _ h.mem).1
end
section
variable {C : Cx} {L : Regs} {O S : List Fact}
end
end Go.Sx
