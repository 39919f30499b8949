/- Calls through interfaces and tables, package-level variables that are only read, scopes. Conditions: none; a library of lemmas. -/
import Derived.Test.YtafmgkiddhappaaDoorSxI
import Derived.Scope
namespace Go.Sx
open Go.RowKit

/-- A package-level variable's cells, as far as they are known; nobody writes them. -/
def gl (g : Nat) (cs : List Value) : Fact := ⟨fun b => b = g, fun w => ∀ i v, cs[i]? = some v → w.cell? ⟨g, i, none⟩ = some v, fun h hP i v hv => (World.cell?_of_block (h g rfl)).trans (hP i v hv)⟩
class HasG (S : List Fact) (g : Nat) (cs : outParam (List Value)) : Prop where
  mem : gl g cs ∈ S
instance (priority := 900) HasG.tail (f : Fact) (S : List Fact) (g : Nat) (cs : List Value) [h : HasG S g cs] : HasG (f :: S) g cs := ⟨List.mem_cons_of_mem _ h.mem⟩
instance (priority := 1000) HasG.head (S : List Fact) (g : Nat) (cs : List Value) : HasG (gl g cs :: S) g cs := ⟨List.mem_cons_self ..⟩

section
variable {C : Cx} {Q : Exit → Act → World → Prop} {L : Regs} {O S : List Fact} {ops : Array Oper} {rest : List Oper} {ty : TypeId} {pos : String} {aft : Array Edge} {dst : Option Tmp} {gu : Option (Nat × Bool)} {t : TypeId} {x y : Operand}

theorem y_loadG {g k : Nat} {cs : List Value} {v : Value} [h : HasG S g cs] (ha : ∀ w, (isAgg t).run C.P w = .ok false w) (hx : val L x = some (.pointer (some ⟨g, k, none⟩))) (hv : cs[k]? = some v) :
    Yi C ⟨dst, .load t x, ty, pos, aft, gu⟩ L O S v :=
  yi_val (by intro c h; cases h) fun a w hr hp => by
    have hc : w.cell? ⟨g, k, none⟩ = some v := (hp.shared _ h.mem).1 k v hv
    simp [execOp, hr.val hx, Instr.loadAt, Instr.sureAddr, loadVar, ha, hc]
/-- The variable, below the heap's end. -/
def Gl (w : World) (g : Nat) (cs : List Value) : Prop := (gl g cs).P w ∧ g < w.heap.size
theorem Hp.glo {F : Nat → Prop} {w0 w : World} (hp : Hp F w0 O S w) {g : Nat} {cs : List Value} [h : HasG S g cs] : Gl w g cs := ⟨(hp.shared _ h.mem).1, (hp.shared _ h.mem).2.1 g rfl⟩
/-- An element's place in an array. -/
theorem y_ixArr {s e n sz b k : Nat} {i : Int} {q : IntKind} (hu : C.P.underlying s = some (.array n e)) (hs : ∀ w, (sizeOf e).run C.P w = .ok sz w) (hx : val L x = some (.pointer (some ⟨b, k, none⟩))) (hy : val L y = some (.int q i)) (hi : 0 ≤ i ∧ i < n) :
    Yi C ⟨dst, .indexAddr s x y, ty, pos, aft, gu⟩ L O S (.pointer (some ⟨b, k + i.toNat * sz, none⟩)) :=
  yi_val (by intro c h; cases h) fun a w hr _ => by
    simp [execOp, hr.val hx, hr.val hy, Instr.indexAt, run_underlying hu, Instr.sureAddr, asIntOf, hi, hs, addr_add]

/-- A binary operation at just these operands. -/
theorem y_binO {op : BinOp} {t' : TypeId} {u v r : Value} (hx : val L x = some u) (hy : val L y = some v) (h : ∀ w : World, (do eqGuard op t x y u v; binOp op t u v : Sem Value).run C.P w = .ok r w) : Yi C ⟨dst, .binOp op t x y t', ty, pos, aft, gu⟩ L O S r :=
  yi_val (by intro c h; cases h) fun a w hr _ => by
    have := h w
    simp only [execOp, hr.val hx, hr.val hy]
    rw [Sem.run_bind, this]; rfl
/-- A call of a method through an interface. -/
theorem y_invokeG {name : String} {xs : List Operand} {vs : List Value} {ats : Array TypeId} {V v : Value} (hx : val L x = some V) (hv : valsO L xs = some vs)
    (hc : ∃ f u, (∀ args w, (callMethod V name args).run C.P w = .ok (.enter f (#[u] ++ args)) w) ∧ ∀ w, Hp C.F C.w0 O S w → Calls C.P f (#[u] ++ vs.toArray) w (fun e w' => e = .returned v ∧ Grow w w')) :
    Yi C ⟨dst, .call ⟨.invoke x name, xs.toArray, ats⟩, ty, pos, aft, gu⟩ L O S v :=
  ⟨(by intro c h; cases h), fun a w hr hp => by
    obtain ⟨f, u, hm, hcall⟩ := hc
    have hvs := valsO_eval hr xs vs hv
    have hrun : (execOp a.eval ⟨dst, .call ⟨.invoke x name, xs.toArray, ats⟩, ty, pos, aft, gu⟩).run C.P w = .ok (.enter f (#[u] ++ vs.toArray)) w := by
      have : (#[V] ++ vs.toArray).extract 1 (#[V] ++ vs.toArray).size = vs.toArray := by simp
      have h0 : (#[V] ++ vs.toArray)[0]? = some V := by simp
      have e : xs.toArray.map a.eval = vs.toArray := by simp [← hvs]
      simp only [execOp, resolve, hr.val hx, e, pure_bind]
      show (invoke (.fn (.method name) #[]) (#[V] ++ vs.toArray)).run C.P w = _
      simp only [invoke, h0, this]
      exact hm _ w
    unfold YieldsV
    rw [hrun]
    exact ⟨rfl, hcall w hp⟩⟩

/-- A call of a function value that may turn one block of one's own. -/
theorem oj_callMV {X : Type} {b d : Nat} {ob : Obj} {xs : List Operand} {vs : List Value} {ats : Array TypeId} {V : Value} (enc : X → Value) (ob' : X → Obj) {O' : X → List Fact} (hx : val L x = some V) (hv : valsO L xs = some vs) [hb : HasB O b ob] [hu : ∀ x, UpdB O b ob (ob' x) (O' x)]
    (hc : ∃ f fi ca, V = .func (.func f) fi ca ∧ (∀ args w, (callFunc f args).run C.P w = .ok (.enter f args) w) ∧ ∀ w, Hp C.F C.w0 O S w → Calls C.P f (fi ++ vs.toArray ++ ca) w (fun e w' => ∃ x, e = .returned (enc x) ∧ Mut (ownB b ob) w w' ∧ w'.heap[b]? = some (ob' x))) (hdN : Nat.blt d C.N = true)
    (k : ∀ x, OJ C ops Q rest ((d, enc x) :: L) (O' x) S) : OJ C ops Q (⟨some d, .call ⟨.value x, xs.toArray, ats⟩, ty, pos, aft, none⟩ :: rest) L O S := by
  intro a w hr hp
  obtain ⟨f, fi, ca, rfl, hf, hc⟩ := hc
  have hdN' : d < C.N := by simpa [Nat.blt_eq] using hdN
  unfold wpListIn
  rw [if_pos (by simp [Region.wanted])]
  refine ⟨fun _ _ => trivial, ?_⟩
  rw [Oper.semAt_eq _ _ _ (by intro c h; cases h), run_callV hr hf hx hv]
  refine ⟨fun h => (by cases h), callsIn_FR.2 ((hc w hp).mono fun e w' hx => ?_)⟩
  obtain ⟨x, rfl, hm, hP⟩ := hx
  refine k x _ w' (hr.put hdN' _) ?_
  refine hp.write (hu x).rep hm.os hm.tape hm.output hm.size hm.same hP (fun c hc => ⟨?_, .inl hc⟩)
  have hc' : c = b := hc
  subst hc'
  exact Nat.lt_of_lt_of_le ((hp.own _ hb.mem).2 c rfl).1 hm.size

theorem cj_scope {c : Code} (hro : C.ro = none) (h : CJ C c (Exit.noGoto Q) L O S) : CJ C (.scope c) Q L O S := fun a w hr hp => by
  have h1 := h a w hr hp
  rw [hro] at h1 ⊢
  exact wpIn_FR_none.2 (wp_scope_straight (wpIn_FR_none.1 h1))
end

/-! ### Literals that are handed on -/
/-- A slice that lies in a block of its own. -/
def litS {α : Type} (b sz : Nat) (enc : α → List Value) (xs : List α) : Fact := sl (fun i => i = b) sz enc (some ⟨b, 0, none⟩) xs
section
variable {α : Type} {O S : List Fact} {w0 w : World} {b e sz : Nat} {enc : α → List Value} {cs : List Value}
theorem lit_cells (hb : w.heap[b]? = some (cellsB e cs)) (xs : List α) (he : ∀ x, (enc x).length = sz) (hcs : xs.flatMap enc = cs) (i : Nat) (x : α) (j : Nat) (u : Value) (hx : xs[i]? = some x) (hu : (enc x)[j]? = some u) : w.cell? ((⟨b, 0, none⟩ : Addr).add (i * sz + j)) = some u := by
  have hj : j < sz := by have := (List.getElem?_eq_some_iff.1 hu).1; rw [he] at this; exact this
  rw [addr_add, cell_of_row w b _ cs.toArray e (0, 0) hb]
  have := flatMap_get enc sz he xs i x j hx hj
  rw [hcs, hu] at this
  simpa using this
theorem Hp.lit (hp : Hp (fun i => i < w0.heap.size) w0 O S w) [h : HasB O b (cellsB e cs)] (xs : List α) (he : ∀ x, (enc x).length = sz) (hcs : xs.flatMap enc = cs) (hl : xs.length ≤ maxLen) :
    (litS b sz enc xs).P w ∧ ∀ i, (litS b sz enc xs).fp i → w0.heap.size ≤ i ∧ i < w.heap.size ∧ ∀ o ∈ ([] : List Fact), ¬ o.fp i := by
  have hb := (hp.own _ h.mem)
  refine ⟨⟨hl, fun _ => ⟨_, rfl, rfl, fun i x j u hx hu => lit_cells hb.1 xs he hcs i x j u hx hu⟩⟩, fun i hi => ?_⟩
  have : i = b := hi
  subst this
  exact ⟨Nat.le_of_not_lt (hb.2 i rfl).2, (hb.2 i rfl).1, by simp⟩
theorem Hp.rdLit {F : Nat → Prop} (hp : Hp F w0 O S w) [h : HasB O b (cellsB e cs)] (xs : List α) (he : ∀ x, (enc x).length = sz) (hcs : xs.flatMap enc = cs) (hl : xs.length ≤ maxLen) : Rd w sz enc (some ⟨b, 0, none⟩) xs :=
  ⟨hl, fun _ => ⟨_, rfl, (hp.own _ h.mem).2 b rfl |>.1, fun i x j u hx hu => lit_cells (hp.own _ h.mem).1 xs he hcs i x j u hx hu⟩⟩
instance (priority := 1050) HasSl.lit (S : List Fact) (b sz : Nat) (enc : α → List Value) (xs : List α) : HasSl (litS b sz enc xs :: S) (some ⟨b, 0, none⟩) (fun i => i = b) sz enc xs := ⟨List.mem_cons_self ..⟩
end
end Go.Sx
