/- A small program logic over the kit's walk: what is known of the temporaries is a list, what is known of memory is two lists of assertions (exclusive ones and shared ones). Each operation has one rule. Conditions: none; a library of lemmas. -/
import Derived.WalkKit
import Derived.OwnWalkIn
import Derived.OrdersIn
import Derived.TacticsIn
import Derived.KernelRfl
import Derived.RangeFuncCalls
namespace Go.Sx
open Go.RowKit

/-- The fence that lets all in, within a round of a range over a function or not. -/
def FR (ro : Option Nat) : Fence := { Fence.wide with round := ro }

theorem callsIn_FR {ro : Option Nat} {n : Nat} {P : Program} {f : FuncId} {args : Array Value} {w : World} {R : Ending → World → Prop} :
    CallsIn (FR ro) n P f args w R ↔ Calls P f args w R := callsIn_wide (n := n)

theorem wpIn_FR_none {n : Nat} {P : Program} {c : Code} {Q : Exit → Act → World → Prop} {a : Act} {w : World} : c.wpIn (FR none) n P Q a w ↔ c.wp P Q a w := wpIn_wide

/-! ### Temporaries -/
abbrev Regs := List (Nat × Value)
def look : Regs → Nat → Option Value
  | [], _ => none
  | (k, v) :: r, n => bif Nat.beq k n then some v else look r n

def val (L : Regs) : Operand → Option Value
  | .tmp t => look L t
  | .const v => some v
  | .global g => some (.pointer (some ⟨g, 0, none⟩))
  | .func f => some (.func (.func f) #[] #[])

structure RegsOk (N : Nat) (D : List Deferred) (L : Regs) (a : Act) : Prop where
  defers : a.defers = D
  size : a.tmps.size = N
  look : ∀ k v, look L k = some v → a.tmps[k]? = some v

theorem RegsOk.val {N : Nat} {D : List Deferred} {L : Regs} {a : Act} (h : RegsOk N D L a) {x : Operand} {v : Value} (hx : val L x = some v) : a.eval x = v := by
  cases x with
  | tmp t => have := h.look t v hx; simp [Act.eval, Array.getD_eq_getD_getElem?, this]
  | const v => simpa [Sx.val, Act.eval] using hx
  | global g => simpa [Sx.val, Act.eval] using hx
  | func f => simpa [Sx.val, Act.eval] using hx

theorem look_cons (k : Nat) (v : Value) (r : Regs) (n : Nat) : look ((k, v) :: r) n = if k = n then some v else look r n := by
  by_cases h : k = n
  · subst h; simp [look]
  · simp only [look, if_neg h]
    have : Nat.beq k n = false := by
      cases hb : Nat.beq k n with
      | false => rfl
      | true => exact absurd (Nat.eq_of_beq_eq_true hb) h
    simp [this]

theorem RegsOk.put {N : Nat} {D : List Deferred} {L : Regs} {a : Act} (h : RegsOk N D L a) {d : Nat} (hd : d < N) (v : Value) : RegsOk N D ((d, v) :: L) (a.put (some d) v) := by
  refine ⟨h.defers, by simp [Act.put, h.size], fun k u hk => ?_⟩
  rw [look_cons] at hk
  simp only [Act.put, Array.getElem?_setIfInBounds]
  by_cases e : d = k
  · subst e
    rw [if_pos rfl] at hk
    have := h.size
    simp only [Option.some.injEq] at hk
    subst hk
    simp [h.size, hd]
  · rw [if_neg e] at hk
    rw [if_neg e]
    exact h.look k u hk

theorem RegsOk.put_none {N : Nat} {D : List Deferred} {L : Regs} {a : Act} (h : RegsOk N D L a) (v : Value) : RegsOk N D L (a.put none v) := h

/-- Less is known. -/
theorem RegsOk.sub {N : Nat} {D : List Deferred} {L L' : Regs} {a : Act} (h : RegsOk N D L a) (hs : ∀ k v, Sx.look L' k = some v → Sx.look L k = some v) : RegsOk N D L' a :=
  ⟨h.defers, h.size, fun k v hk => h.look k v (hs k v hk)⟩

/-- The same as a check by reckoning: each of the new list's entries is found in the old one. -/
def subR (L : Regs) : Regs → Prop
  | [] => True
  | p :: r => look L p.1 = some p.2 ∧ subR L r
theorem RegsOk.subR {N : Nat} {D : List Deferred} {L L' : Regs} {a : Act} (h : RegsOk N D L a) (hs : subR L L') : RegsOk N D L' a := by
  refine h.sub ?_
  induction L' with
  | nil => intro k v hk; cases hk
  | cons p r ih =>
    obtain ⟨k0, v0⟩ := p
    intro k v hk
    rw [look_cons] at hk
    by_cases e : k0 = k
    · subst e
      rw [if_pos rfl] at hk
      rw [hs.1]; exact hk
    · rw [if_neg e] at hk
      exact ih hs.2 k v hk

/-! ### Memory -/
/-- A statement about some blocks: 'fp' says which; it holds as long as these are as they are. -/
structure Fact where
  fp : Nat → Prop
  P : World → Prop
  stab : ∀ {w w' : World}, (∀ b, fp b → w'.heap[b]? = w.heap[b]?) → P w → P w'

/-- What is known of memory: 'F': blocks that are as they were at first; 'O': what the function owns, each apart from all else; 'S': what is shared and is not written. -/
structure Hp (F : Nat → Prop) (w0 : World) (O S : List Fact) (w : World) : Prop where
  os : w.os = w0.os
  tape : w.tape = w0.tape
  output : w.output = w0.output
  size : w0.heap.size ≤ w.heap.size
  fr : ∀ b, F b → b < w0.heap.size ∧ w.heap[b]? = w0.heap[b]?
  own : ∀ f ∈ O, f.P w ∧ ∀ b, f.fp b → b < w.heap.size ∧ ¬ F b
  apart : O.Pairwise (fun f g => ∀ b, f.fp b → ¬ g.fp b)
  shared : ∀ f ∈ S, f.P w ∧ (∀ b, f.fp b → b < w.heap.size) ∧ ∀ g ∈ O, ∀ b, f.fp b → ¬ g.fp b

/-- Nothing that was there has turned. -/
abbrev Grow (w w' : World) : Prop := Below w.heap.size w w'

theorem Hp.grow {F : Nat → Prop} {w0 : World} {O S : List Fact} {w w' : World} (h : Hp F w0 O S w) (hg : Grow w w') : Hp F w0 O S w' where
  os := hg.os.trans h.os
  tape := hg.tape.trans h.tape
  output := hg.output.trans h.output
  size := Nat.le_trans h.size hg.size
  fr := fun b hb => ⟨(h.fr b hb).1, (hg.block b (Nat.lt_of_lt_of_le (h.fr b hb).1 h.size)).trans (h.fr b hb).2⟩
  own := fun f hf => ⟨f.stab (fun b hb => hg.block b ((h.own f hf).2 b hb).1) (h.own f hf).1, fun b hb => ⟨Nat.lt_of_lt_of_le ((h.own f hf).2 b hb).1 hg.size, ((h.own f hf).2 b hb).2⟩⟩
  apart := h.apart
  shared := fun f hf => ⟨f.stab (fun b hb => hg.block b ((h.shared f hf).2.1 b hb)) (h.shared f hf).1, fun b hb => Nat.lt_of_lt_of_le ((h.shared f hf).2.1 b hb) hg.size, (h.shared f hf).2.2⟩

/-- A new shared assertion, about new blocks. -/
theorem Hp.addS {F : Nat → Prop} {w0 : World} {O S : List Fact} {w : World} (h : Hp F w0 O S w) (f : Fact) (hP : f.P w) (hlt : ∀ b, f.fp b → b < w.heap.size) (hap : ∀ g ∈ O, ∀ b, f.fp b → ¬ g.fp b) : Hp F w0 O (f :: S) w :=
  ⟨h.os, h.tape, h.output, h.size, h.fr, h.own, h.apart, fun g hg => by
    rcases List.mem_cons.1 hg with rfl | hg
    · exact ⟨hP, hlt, hap⟩
    · exact h.shared g hg⟩

/-- A new exclusive assertion, about blocks that are new since w. -/
theorem Hp.addO {F : Nat → Prop} {w0 : World} {O S : List Fact} {w w' : World} (h : Hp F w0 O S w) (hg : Grow w w') (f : Fact) (hP : f.P w') (hfp : ∀ b, f.fp b → w.heap.size ≤ b ∧ b < w'.heap.size) : Hp F w0 (f :: O) S w' :=
  { h.grow hg with
    own := fun g hg' => by
      rcases List.mem_cons.1 hg' with rfl | hg'
      · refine ⟨hP, fun b hb => ⟨(hfp b hb).2, fun hF => ?_⟩⟩
        have h1 := (h.fr b hF).1
        have h2 := (hfp b hb).1
        have h3 := h.size
        omega
      · exact (h.grow hg).own g hg'
    apart := by
      refine List.pairwise_cons.2 ⟨fun g hg' b hb hb' => ?_, h.apart⟩
      have h1 := ((h.own g hg').2 b hb').1
      have h2 := (hfp b hb).1
      omega
    shared := fun g hg' => by
      refine ⟨((h.grow hg).shared g hg').1, ((h.grow hg).shared g hg').2.1, fun o ho b hb hb' => ?_⟩
      rcases List.mem_cons.1 ho with rfl | ho
      · have h1 := (h.shared g hg').2.1 b hb
        have h2 := (hfp b hb').1
        omega
      · exact (h.shared g hg').2.2 o ho b hb hb' }

/-- The exclusive assertions, one of them replaced. -/
inductive Rep : List Fact → Fact → Fact → List Fact → Prop
  | head (f f' : Fact) (O : List Fact) : Rep (f :: O) f f' (f' :: O)
  | tail (g f f' : Fact) (O O' : List Fact) : Rep O f f' O' → Rep (g :: O) f f' (g :: O')

theorem Rep.mem {O O' : List Fact} {f f' : Fact} (h : Rep O f f' O') : f ∈ O := by
  induction h with
  | head => simp
  | tail _ _ _ _ _ _ ih => simp [ih]

theorem Rep.mem' {O O' : List Fact} {f f' : Fact} (h : Rep O f f' O') {g : Fact} (hg : g ∈ O') : g = f' ∨ g ∈ O := by
  induction h with
  | head f f' O => rcases List.mem_cons.1 hg with h | h <;> simp [h]
  | tail x f f' O O' _ ih =>
    rcases List.mem_cons.1 hg with h | h
    · right; simp [h]
    · rcases ih h with h | h
      · exact .inl h
      · right; simp [h]

theorem Rep.others {O O' : List Fact} {f f' : Fact} (hr : Rep O f f' O') : O.Pairwise (fun f g => ∀ b, f.fp b → ¬ g.fp b) → ∀ g ∈ O', g = f' ∨ (g ∈ O ∧ (∀ b, g.fp b → ¬ f.fp b)) := by
  induction hr with
  | head f f' O =>
    intro hpw g hg
    rcases List.mem_cons.1 hg with h | h
    · exact .inl h
    · exact .inr ⟨by simp [h], fun b hb hb' => (List.pairwise_cons.1 hpw).1 g h b hb' hb⟩
  | tail x f f' O O' hr' ih =>
    intro hpw g hg
    rcases List.mem_cons.1 hg with h | h
    · subst h; exact .inr ⟨by simp, fun b hb hb' => (List.pairwise_cons.1 hpw).1 f hr'.mem b hb hb'⟩
    · rcases ih (List.pairwise_cons.1 hpw).2 g h with h | ⟨h1, h2⟩
      · exact .inl h
      · exact .inr ⟨by simp [h1], h2⟩

theorem Rep.pairwise {O O' : List Fact} {f f' : Fact} {n : Nat} (hr : Rep O f f' O') : (∀ b, f'.fp b → f.fp b ∨ n ≤ b) → (∀ g ∈ O, ∀ b, g.fp b → b < n) →
    O.Pairwise (fun f g => ∀ b, f.fp b → ¬ g.fp b) → O'.Pairwise (fun f g => ∀ b, f.fp b → ¬ g.fp b) := by
  induction hr with
  | head f f' O =>
    intro hfp hlt hpw
    refine List.pairwise_cons.2 ⟨fun g hg b hb hb' => ?_, (List.pairwise_cons.1 hpw).2⟩
    rcases hfp b hb with h3 | h3
    · exact (List.pairwise_cons.1 hpw).1 g hg b h3 hb'
    · have := hlt g (by simp [hg]) b hb'; omega
  | tail x f f' O O' hr' ih =>
    intro hfp hlt hpw
    refine List.pairwise_cons.2 ⟨fun g hg b hb hb' => ?_, ih hfp (fun g hg => hlt g (by simp [hg])) (List.pairwise_cons.1 hpw).2⟩
    rcases hr'.mem' hg with rfl | hg
    · rcases hfp b hb' with h3 | h3
      · exact (List.pairwise_cons.1 hpw).1 _ hr'.mem b hb h3
      · have := hlt x (by simp) b hb; omega
    · exact (List.pairwise_cons.1 hpw).1 g hg b hb hb'

/-- A write into the blocks of one exclusive assertion: 'w'' is as 'w' but for these, and may have grown; the new assertion's blocks are among the old one's, or new. -/
theorem Hp.write {F : Nat → Prop} {w0 : World} {O O' S : List Fact} {f f' : Fact} {w w' : World} (h : Hp F w0 O S w) (hr : Rep O f f' O')
    (hos : w'.os = w.os) (htape : w'.tape = w.tape) (hout : w'.output = w.output) (hsz : w.heap.size ≤ w'.heap.size)
    (hsame : ∀ b, b < w.heap.size → ¬ f.fp b → w'.heap[b]? = w.heap[b]?) (hP : f'.P w') (hfp : ∀ b, f'.fp b → b < w'.heap.size ∧ (f.fp b ∨ w.heap.size ≤ b)) :
    Hp F w0 O' S w' := by
  have hf := hr.mem
  have hap := hr.others h.apart
  refine ⟨hos.trans h.os, htape.trans h.tape, hout.trans h.output, Nat.le_trans h.size hsz, fun b hb => ?_, fun g hg => ?_, ?_, fun g hg => ?_⟩
  · refine ⟨(h.fr b hb).1, (hsame b (Nat.lt_of_lt_of_le (h.fr b hb).1 h.size) (fun hfb => ((h.own f hf).2 b hfb).2 hb)).trans (h.fr b hb).2⟩
  · rcases hap g hg with rfl | ⟨h1, h2⟩
    · refine ⟨hP, fun b hb => ⟨(hfp b hb).1, fun hF => ?_⟩⟩
      rcases (hfp b hb).2 with h3 | h3
      · exact ((h.own f hf).2 b h3).2 hF
      · have h4 := (h.fr b hF).1
        have h5 := h.size
        omega
    · exact ⟨g.stab (fun b hb => hsame b ((h.own g h1).2 b hb).1 (h2 b hb)) (h.own g h1).1, fun b hb => ⟨Nat.lt_of_lt_of_le ((h.own g h1).2 b hb).1 hsz, ((h.own g h1).2 b hb).2⟩⟩
  · exact hr.pairwise (fun b hb => (hfp b hb).2) (fun g hg b hb => ((h.own g hg).2 b hb).1) h.apart
  · have hs := h.shared g hg
    refine ⟨g.stab (fun b hb => hsame b (hs.2.1 b hb) (hs.2.2 f hf b hb)) hs.1, fun b hb => Nat.lt_of_lt_of_le (hs.2.1 b hb) hsz, fun o ho b hb hb' => ?_⟩
    rcases hap o ho with rfl | ⟨h1, _⟩
    · rcases (hfp b hb').2 with h3 | h3
      · exact hs.2.2 f hf b hb h3
      · have := hs.2.1 b hb; omega
    · exact hs.2.2 o h1 b hb hb'

/-- Less is known: exclusive assertions may be dropped, shared ones too. -/
theorem Hp.sub {F : Nat → Prop} {w0 : World} {O O' S S' : List Fact} {w : World} (h : Hp F w0 O S w) (hO : O'.Sublist O) (hS : ∀ f ∈ S', f ∈ S) : Hp F w0 O' S' w where
  os := h.os
  tape := h.tape
  output := h.output
  size := h.size
  fr := h.fr
  own := fun f hf => h.own f (hO.subset hf)
  apart := h.apart.sublist hO
  shared := fun f hf => ⟨(h.shared f (hS f hf)).1, (h.shared f (hS f hf)).2.1, fun g hg => (h.shared f (hS f hf)).2.2 g (hO.subset hg)⟩

theorem Hp.start (F : Nat → Prop) (w : World) (hF : ∀ b, F b → b < w.heap.size) : Hp F w [] [] w :=
  ⟨rfl, rfl, rfl, Nat.le_refl _, fun b hb => ⟨hF b hb, rfl⟩, by simp, by simp, by simp⟩

theorem Hp.below {w0 w : World} {O S : List Fact} (h : Hp (fun b => b < w0.heap.size) w0 O S w) : Grow w0 w := ⟨h.os, h.tape, h.output, h.size, fun b hb => (h.fr b hb).2⟩

end Go.Sx
