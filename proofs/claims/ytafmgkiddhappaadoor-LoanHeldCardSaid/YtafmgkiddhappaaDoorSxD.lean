/- Slices, new blocks, stores, appends, calls. Conditions: none; a library of lemmas. -/
import Derived.Test.YtafmgkiddhappaaDoorSxC
import Derived.Maps.AppendAt
namespace Go.Sx
open Go.RowKit

/-! ### Slices whose elements are plain cells -/
section
variable {α : Type}

theorem flatMap_get (enc : α → List Value) (sz : Nat) (he : ∀ x, (enc x).length = sz) : ∀ (xs : List α) (i : Nat) (x : α) (j : Nat), xs[i]? = some x → j < sz → (xs.flatMap enc)[i * sz + j]? = (enc x)[j]?
  | [], i, x, j, h, _ => by simp at h
  | y :: ys, 0, x, j, h, hj => by
    simp at h; subst h
    rw [List.flatMap_cons, Nat.zero_mul, Nat.zero_add, List.getElem?_append_left (by rw [he]; exact hj)]
  | y :: ys, i + 1, x, j, h, hj => by
    rw [List.flatMap_cons, List.getElem?_append_right (by rw [he, Nat.succ_mul]; omega), he, Nat.succ_mul]
    rw [show i * sz + sz + j - sz = i * sz + j by omega]
    exact flatMap_get enc sz he ys i x j (by simpa using h) hj
theorem flatMap_len (enc : α → List Value) (sz : Nat) (he : ∀ x, (enc x).length = sz) (xs : List α) : (xs.flatMap enc).length = xs.length * sz := by
  induction xs with
  | nil => simp
  | cons x xs ih => rw [List.flatMap_cons, List.length_append, he, ih, List.length_cons, Nat.succ_mul]; omega

theorem block_add (a : Addr) (n : Nat) : (a.add n).block = a.block := by unfold Addr.add; split <;> rfl
theorem add_add (a : Addr) (i j : Nat) : (a.add i).add j = a.add (i + j) := by
  unfold Addr.add
  by_cases hi : i = 0 <;> by_cases hj : j = 0 <;> simp [hi, hj, Nat.add_assoc]

/-- The slice at A reads as the list xs; all that it reaches lies in 'fp'. -/
def sl (fp : Nat → Prop) (sz : Nat) (enc : α → List Value) (A : Option Addr) (xs : List α) : Fact where
  fp := fp
  P := fun w => xs.length ≤ maxLen ∧ (xs ≠ [] → ∃ a, A = some a ∧ fp a.block ∧ ∀ i x j u, xs[i]? = some x → (enc x)[j]? = some u → w.cell? (a.add (i * sz + j)) = some u)
  stab := fun {w w'} h ⟨h0, h1⟩ => ⟨h0, fun hne => by
    obtain ⟨a, ha, hf, hc⟩ := h1 hne
    refine ⟨a, ha, hf, fun i x j u hx hu => ?_⟩
    rw [← hc i x j u hx hu]
    exact World.cell?_of_block (h _ (by rw [block_add]; exact hf))⟩

/-- The same of a slice that the function owns: it may append to it. -/
def ow (e : TypeId) (sz : Nat) (enc : α → List Value) (A : Option Addr) (c : Nat) (xs : List α) : Fact where
  fp := fun b => (Value.slice A xs.length c).ownBlock = some b
  P := fun w => w.ownsRow 0 e sz (.slice A xs.length c) xs.length (xs.flatMap enc)
  stab := fun {w w'} h h1 => by
    refine ⟨h1.1, ?_⟩
    rcases h1.2 with h2 | ⟨g, cap, cur, hv, h3, h4, h5⟩
    · exact .inl h2
    · refine .inr ⟨g, cap, cur, hv, h3, ?_, h5⟩
      rw [h g (by rw [hv]; rfl)]; exact h4

class HasSl (S : List Fact) (A : Option Addr) {α : outParam Type} (fp : outParam (Nat → Prop)) (sz : outParam Nat) (enc : outParam (α → List Value)) (xs : outParam (List α)) : Prop where
  mem : sl fp sz enc A xs ∈ S
instance (priority := 900) HasSl.tail (f : Fact) (S : List Fact) (A : Option Addr) (fp : Nat → Prop) (sz : Nat) (enc : α → List Value) (xs : List α) [h : HasSl S A fp sz enc xs] : HasSl (f :: S) A fp sz enc xs := ⟨List.mem_cons_of_mem _ h.mem⟩
instance (priority := 1000) HasSl.head (S : List Fact) (A : Option Addr) (fp : Nat → Prop) (sz : Nat) (enc : α → List Value) (xs : List α) : HasSl (sl fp sz enc A xs :: S) A fp sz enc xs := ⟨List.mem_cons_self ..⟩

class HasOw (O : List Fact) (A : Option Addr) {α : outParam Type} (e : outParam TypeId) (sz : outParam Nat) (enc : outParam (α → List Value)) (c : outParam Nat) (xs : outParam (List α)) : Prop where
  mem : ow e sz enc A c xs ∈ O
instance (priority := 900) HasOw.tail (f : Fact) (O : List Fact) (A : Option Addr) (e : TypeId) (sz : Nat) (enc : α → List Value) (c : Nat) (xs : List α) [h : HasOw O A e sz enc c xs] : HasOw (f :: O) A e sz enc c xs := ⟨List.mem_cons_of_mem _ h.mem⟩
instance (priority := 1000) HasOw.head (O : List Fact) (A : Option Addr) (e : TypeId) (sz : Nat) (enc : α → List Value) (c : Nat) (xs : List α) : HasOw (ow e sz enc A c xs :: O) A e sz enc c xs := ⟨List.mem_cons_self ..⟩

class UpdOw (O : List Fact) (A : Option Addr) {α : outParam Type} (e : outParam TypeId) (sz : outParam Nat) (enc : outParam (α → List Value)) (c : outParam Nat) (xs : outParam (List α)) (f' : Fact) (O' : outParam (List Fact)) : Prop where
  rep : Rep O (ow e sz enc A c xs) f' O'
instance (priority := 900) UpdOw.tail (f : Fact) (O O' : List Fact) (A : Option Addr) (e : TypeId) (sz : Nat) (enc : α → List Value) (c : Nat) (xs : List α) (f' : Fact) [h : UpdOw O A e sz enc c xs f' O'] : UpdOw (f :: O) A e sz enc c xs f' (f :: O') := ⟨.tail _ _ _ _ _ h.rep⟩
instance (priority := 1000) UpdOw.head (O : List Fact) (A : Option Addr) (e : TypeId) (sz : Nat) (enc : α → List Value) (c : Nat) (xs : List α) (f' : Fact) : UpdOw (ow e sz enc A c xs :: O) A e sz enc c xs f' (f' :: O) := ⟨.head _ _ _⟩

/-- The cells of a part of a slice, whoever owns it. -/
def Reads (C : Cx) (O S : List Fact) (sz : Nat) (enc : α → List Value) (A : Option Addr) (xs : List α) : Prop :=
  ∀ w, Hp C.F C.w0 O S w → xs ≠ [] → ∃ a, A = some a ∧ ∀ i x j u, xs[i]? = some x → (enc x)[j]? = some u → w.cell? (a.add (i * sz + j)) = some u

variable {C : Cx} {L : Regs} {O S : List Fact}
theorem reads_sl {fp : Nat → Prop} {sz : Nat} {enc : α → List Value} {A : Option Addr} {xs : List α} [h : HasSl S A fp sz enc xs] : Reads C O S sz enc A xs := fun w hp hne => by
  obtain ⟨a, ha, _, hc⟩ := (hp.shared _ h.mem).1.2 hne
  exact ⟨a, ha, hc⟩
theorem ow_cells {e : TypeId} {sz : Nat} {enc : α → List Value} {A : Option Addr} {c : Nat} {xs : List α} {w : World} (h : (ow e sz enc A c xs).P w) (he : ∀ x, (enc x).length = sz) (hne : xs ≠ []) :
    ∃ a, A = some a ∧ ∀ i x j u, xs[i]? = some x → (enc x)[j]? = some u → w.cell? (a.add (i * sz + j)) = some u := by
  have hP : w.ownsRow 0 e sz (.slice A xs.length c) xs.length (xs.flatMap enc) := h
  rcases hP.2 with ⟨h2, h3⟩ | ⟨g, cap, cur, hv, h3, h4, h5⟩
  · exact absurd (List.eq_nil_of_length_eq_zero h3) hne
  · have hA : A = some ⟨g, 0, none⟩ := by injection hv
    refine ⟨⟨g, 0, none⟩, hA, fun i x j u hx hu => ?_⟩
    have hj : j < sz := by have := (List.getElem?_eq_some_iff.1 hu).1; rw [he] at this; exact this
    refine hP.cells (g := g) (by rw [hA]; rfl) (i * sz + j) u ?_
    rw [flatMap_get enc sz he xs i x j hx hj]; exact hu
theorem reads_ow {e : TypeId} {sz : Nat} {enc : α → List Value} {A : Option Addr} {c : Nat} {xs : List α} [h : HasOw O A e sz enc c xs] (he : ∀ x, (enc x).length = sz) : Reads C O S sz enc A xs := fun _ hp hne =>
  ow_cells (hp.own _ h.mem).1 he hne

theorem at_some (a : Addr) (n : Nat) : at_ (some a) n = a.add n := rfl

variable {dst : Option Tmp} {ty : TypeId} {pos : String} {aft : Array Edge} {gu : Option (Nat × Bool)} {t : TypeId} {x : Operand}
/-- One cell of an element. -/
theorem y_ld1 {sz i j : Nat} {enc : α → List Value} {A : Option Addr} {xs : List α} {u : α} {v : Value} (hr0 : Reads C O S sz enc A xs) (ha : ∀ w, (isAgg t).run C.P w = .ok false w) (hx : val L x = some (.pointer (some (at_ A (i * sz + j))))) (hu : xs[i]? = some u) (hv : (enc u)[j]? = some v) :
    Yi C ⟨dst, .load t x, ty, pos, aft, gu⟩ L O S v :=
  yi_val (by intro c h; cases h) fun a w hr hp => by
    obtain ⟨ad, rfl, hc⟩ := hr0 w hp (by rintro rfl; simp at hu)
    have hc := hc i u j v hu hv
    simp [execOp, hr.val hx, Instr.loadAt, Instr.sureAddr, loadVar, ha, at_some, hc]
theorem y_ld0 {sz i : Nat} {enc : α → List Value} {A : Option Addr} {xs : List α} {u : α} {v : Value} (hr0 : Reads C O S sz enc A xs) (ha : ∀ w, (isAgg t).run C.P w = .ok false w) (hx : val L x = some (.pointer (some (at_ A (i * sz))))) (hu : xs[i]? = some u) (hv : (enc u)[0]? = some v) :
    Yi C ⟨dst, .load t x, ty, pos, aft, gu⟩ L O S v := y_ld1 (j := 0) hr0 ha hx hu hv
/-- A whole element, or a part of it that is a struct. -/
theorem y_ldN {sz i j n : Nat} {enc : α → List Value} {A : Option Addr} {xs : List α} {u : α} {vs : List Value} (hr0 : Reads C O S sz enc A xs) (ha : ∀ w, (isAgg t).run C.P w = .ok true w) (hs : ∀ w, (sizeOf t).run C.P w = .ok n w) (hx : val L x = some (.pointer (some (at_ A (i * sz + j))))) (hu : xs[i]? = some u)
    (hv : Tk n j (enc u) vs) : Yi C ⟨dst, .load t x, ty, pos, aft, gu⟩ L O S (.agg vs.toArray) :=
  yi_val (by intro c h; cases h) fun a w hr hp => by
    obtain ⟨ad, rfl, hc⟩ := hr0 w hp (by rintro rfl; simp at hu)
    have hl : (loadCells (ad.add (i * sz + j)) n).run C.P w = .ok vs.toArray w := by
      rw [← hv.len]
      refine run_loadCells_list (P := C.P) w _ vs fun l v hl => ?_
      have hln : l < n := by have := (List.getElem?_eq_some_iff.1 hl).1; rw [hv.len] at this; exact this
      rw [add_add, Nat.add_assoc]
      exact hc i u (j + l) v hu (by rw [hv.eq l hln]; exact hl)
    simp [execOp, hr.val hx, Instr.loadAt, Instr.sureAddr, loadVar, ha, hs, at_some, hl]
theorem y_ldW {sz i : Nat} {enc : α → List Value} {A : Option Addr} {xs : List α} {u : α} (hr0 : Reads C O S sz enc A xs) (ha : ∀ w, (isAgg t).run C.P w = .ok true w) (hs : ∀ w, (sizeOf t).run C.P w = .ok sz w) (hx : val L x = some (.pointer (some (at_ A (i * sz))))) (hu : xs[i]? = some u)
    (he : ∀ x, (enc x).length = sz) : Yi C ⟨dst, .load t x, ty, pos, aft, gu⟩ L O S (.agg (enc u).toArray) :=
  y_ldN (j := 0) hr0 ha hs hx hu ⟨fun j _ => by rw [Nat.zero_add], he u⟩
end

/-! ### New blocks -/
section
variable {C : Cx} {Q : Exit → Act → World → Prop} {ops : Array Oper} {rest : List Oper} {L : Regs} {O S : List Fact} {ty : TypeId} {pos : String} {aft : Array Edge} {d : Nat}

/-- An operation whose run is known, that lays one new block. -/
theorem oj_new {o : Oper} (hnd : ∀ c, o.op ≠ .defer c) (hg : o.guard = none) (hd : o.dst = some d) (hdN : Nat.blt d C.N = true) (ob : Obj) (v : Nat → Value)
    (hrun : ∀ a w, RegsOk C.N C.D L a → Hp C.F C.w0 O S w → (execOp a.eval o).run C.P w = .ok (.value (v w.heap.size)) (w.alloc ob))
    (k : ∀ b, OJ C ops Q rest ((d, v b) :: L) (ownB b ob :: O) S) : OJ C ops Q (o :: rest) L O S := by
  intro a w hr hp
  have hdN' : d < C.N := by simpa [Nat.blt_eq] using hdN
  unfold wpListIn
  rw [if_pos (by simp [Region.wanted, hg])]
  refine ⟨fun _ _ => trivial, ?_⟩
  have hs : o.semAt (FR C.ro).round a.eval = execOp a.eval o := Oper.semAt_eq _ _ _ hnd
  rw [hs, hrun a w hr hp]
  show wpListIn _ _ _ _ _ _ _ _
  rw [hd]
  refine k w.heap.size _ _ (hr.put hdN' _) ?_
  exact hp.addO ((Below.refl _ _).alloc (Nat.le_refl _) _) _ (heap_alloc_new w ob) (fun b hb => by
    have hb' : b = w.heap.size := hb
    subst hb'
    simp)

theorem oj_box {e : TypeId} {x : Operand} {v : Value} {cs : List Value} (hv : val L x = some v) (hc : v.cells = cs.toArray) (hdN : Nat.blt d C.N = true)
    (k : ∀ b, OJ C ops Q rest ((d, .pointer (some ⟨b, 0, none⟩)) :: L) (ownB b (cellsB e cs) :: O) S) : OJ C ops Q (⟨some d, .box e x, ty, pos, aft, none⟩ :: rest) L O S :=
  oj_new (by intro c h; cases h) rfl rfl hdN (cellsB e cs) (fun b => .pointer (some ⟨b, 0, none⟩)) (fun a w hr _ => by
    simp [execOp, hr.val hv, Instr.box, newVar, newRow, hc]) k

theorem oj_alloc {e : TypeId} {z : Value} {cs : List Value} (hz : ∀ w, (zeroValue e).run C.P w = .ok z w) (hc : z.cells = cs.toArray) (hdN : Nat.blt d C.N = true)
    (k : ∀ b, OJ C ops Q rest ((d, .pointer (some ⟨b, 0, none⟩)) :: L) (ownB b (cellsB e cs) :: O) S) : OJ C ops Q (⟨some d, .alloc e, ty, pos, aft, none⟩ :: rest) L O S :=
  oj_new (by intro c h; cases h) rfl rfl hdN (cellsB e cs) (fun b => .pointer (some ⟨b, 0, none⟩)) (fun a w hr _ => by
    simp [execOp, Instr.alloc, newVar, newRow, hz, hc]) k

/-- Values of operands, reckoned. -/
def valsO (L : Regs) : List Operand → Option (List Value)
  | [] => some []
  | x :: r => match val L x, valsO L r with
    | some v, some vs => some (v :: vs)
    | _, _ => none
theorem valsO_eval {N : Nat} {D : List Deferred} {a : Act} (hr : RegsOk N D L a) : ∀ (xs : List Operand) (vs : List Value), valsO L xs = some vs → xs.map a.eval = vs
  | [], vs, h => by simp [valsO] at h; simp [← h]
  | x :: r, vs, h => by
    unfold valsO at h
    split at h
    · rename_i v vs' hv hvs
      simp at h
      rw [← h, List.map_cons, hr.val hv, valsO_eval hr r vs' hvs]
    · cases h
def partsO (L : Regs) : List (Nat × Operand) → Option (List (Nat × Value))
  | [] => some []
  | p :: r => match val L p.2, partsO L r with
    | some v, some vs => some ((p.1, v) :: vs)
    | _, _ => none
theorem partsO_eval {N : Nat} {D : List Deferred} {a : Act} (hr : RegsOk N D L a) : ∀ (xs : List (Nat × Operand)) (vs : List (Nat × Value)), partsO L xs = some vs → xs.map (fun p => (p.1, a.eval p.2)) = vs
  | [], vs, h => by simp [partsO] at h; simp [← h]
  | x :: r, vs, h => by
    unfold partsO at h
    split at h
    · rename_i v vs' hv hvs
      simp at h
      rw [← h, List.map_cons, hr.val hv, partsO_eval hr r vs' hvs]
    · cases h

/-- The struct type: where its fields lie, and its zero's cells. -/
structure StructIs (P : Program) (t : TypeId) (pl : List (Nat × Nat)) (z : List Value) : Prop where
  ex : ∃ fs, P.underlying t = some (.struct fs) ∧ (∀ w, (fs.mapM fun (f : Field) => (do pure (f.offset, ← sizeOf f.type) : Sem (Nat × Nat))).run P w = .ok pl.toArray w) ∧ (∀ w, (zeroValue t).run P w = .ok (.agg z.toArray) w)

/-- 'fill' on lists, reckoned: the places in their order. -/
def fillO (pl : List (Nat × Nat)) (z : List Value) (ps : List (Nat × Value)) : Option (List Value) :=
  match Instr.fill (fun i => pl[i]?) z.toArray ps with
  | some cs => some cs.toList
  | none => none

theorem y_build {dst : Option Tmp} {gu : Option (Nat × Bool)} {t : TypeId} {parts : List (Nat × Operand)} {pl : List (Nat × Nat)} {z cs : List Value} {pv : List (Nat × Value)} (hS : StructIs C.P t pl z) (hv : partsO L parts = some pv) (hf : Instr.fill (fun i => pl[i]?) z.toArray pv = some cs.toArray) :
    Yi C ⟨dst, .build t parts.toArray, ty, pos, aft, gu⟩ L O S (.agg cs.toArray) :=
  yi_val (by intro c h; cases h) fun a w hr _ => by
    obtain ⟨fs, hu, hm, hz⟩ := hS.ex
    have e := partsO_eval hr parts pv hv
    have e2 : (parts.toArray.map fun p => (p.1, a.eval p.2)).toList = pv := by simpa using e
    have hfill : Instr.fill (fun i => pl.toArray[i]?) z.toArray (parts.toArray.map fun p => (p.1, a.eval p.2)).toList = some cs.toArray := by
      rw [e2]; simpa using hf
    simp only [execOp, Instr.build, Sem.run_bind, hz, Result.andThen_ok, run_underlying hu, hm, Value.cells]
    rw [hfill]
    rfl

theorem oj_buildSlice {t e : TypeId} {n size : Nat} {parts : List (Nat × Operand)} {cs : List Value} {z : Value} {pv : List (Nat × Value)} (zs : List Value) (hu : C.P.underlying t = some (.slice e)) (hs : ∀ w, (sizeOf e).run C.P w = .ok size w) (hz : ∀ w, (zeroValue e).run C.P w = .ok z w)
    (hlt : Nat.ble (n * size) 16777216 = true) (hv : partsO L parts = some pv)
    (hzz : (Array.range (n * size)).map ((if n * size = 0 then #[] else z.cells)[· % (if n * size = 0 then #[] else z.cells).size]!) = zs.toArray)
    (hf : Instr.fill (fun i => some (i * size, size)) zs.toArray pv = some cs.toArray) (hdN : Nat.blt d C.N = true)
    (k : ∀ b, OJ C ops Q rest ((d, .slice (some ⟨b, 0, none⟩) n n) :: L) (ownB b (cellsB e cs) :: O) S) : OJ C ops Q (⟨some d, .buildSlice t n parts.toArray, ty, pos, aft, none⟩ :: rest) L O S :=
  oj_new (by intro c h; cases h) rfl rfl hdN (cellsB e cs) (fun b => .slice (some ⟨b, 0, none⟩) n n) (fun a w hr _ => by
    have e := partsO_eval hr parts pv hv
    have e2 : (parts.toArray.map fun p => (p.1, a.eval p.2)).toList = pv := by simpa using e
    have hlt' : ¬ n * size > 2 ^ 24 := by
      have := Nat.le_of_ble_eq_true hlt
      omega
    rw [← hzz] at hf
    simp only [execOp, Instr.buildSlice, Sem.run_bind, run_underlying hu, hs, Result.andThen_ok, if_neg hlt']
    by_cases h0 : n * size = 0
    · simp only [h0, if_true] at hf
      simp only [h0, if_true, pure_bind]
      rw [e2, hf]
      simp [newRow]
    · simp only [h0, if_false] at hf
      simp only [h0, if_false, Sem.run_bind, hz, Sem.run_pure, Result.andThen_ok]
      rw [e2, hf]
      simp [newRow]) k

/-! ### A store into a block of the function's own -/
theorem run_storeCells (P : Program) : ∀ (vs : List Value) (w : World) (b k i : Nat) (e : TypeId) (cs : List Value), w.heap[b]? = some (.cells cs.toArray e (0, 0)) → (vs.all fun v => v.oneCell') = true → k + i + vs.length ≤ cs.length →
    ∃ (w' : World) (cs' : List Value), (storeCells ⟨b, k, none⟩ vs i).run P w = .ok () w' ∧ w'.heap[b]? = some (.cells cs'.toArray e (0, 0)) ∧ (∀ j, cs'[j]? = if k + i ≤ j ∧ j < k + i + vs.length then vs[j - (k + i)]? else cs[j]?) ∧ cs'.length = cs.length ∧
      (∀ c, c ≠ b → w'.heap[c]? = w.heap[c]?) ∧ w'.os = w.os ∧ w'.tape = w.tape ∧ w'.output = w.output ∧ w'.heap.size = w.heap.size
  | [], w, b, k, i, e, cs, hb, _, _ => ⟨w, cs, rfl, hb, fun j => by rw [if_neg (by simp)], rfl, fun _ _ => rfl, rfl, rfl, rfl, rfl⟩
  | v :: vs, w, b, k, i, e, cs, hb, hone, hlen => by
    simp only [List.all_cons, Bool.and_eq_true] at hone
    simp only [List.length_cons] at hlen
    have hcell : w.cell? ⟨b, k + i, none⟩ = cs[k + i]? := by rw [cell_of_row w b (k + i) cs.toArray e (0, 0) hb]; simp
    have hsome : cs[k + i]? = some (cs[k + i]'(by omega)) := List.getElem?_eq_getElem (by omega)
    have hfz : w.frozen? ⟨b, k + i, none⟩ = false := frozen_of_row w b (k + i) cs.toArray e hb
    have hstore : (store ((⟨b, k, none⟩ : Addr).add i) v).run P w = .ok () (w.setCell ⟨b, k + i, none⟩ v) := by
      rw [addr_add, run_store P w _ v _ hone.1, hcell, hsome]
      simp [hfz]
    have hb' : (w.setCell ⟨b, k + i, none⟩ v).heap[b]? = some (.cells (cs.set (k + i) v).toArray e (0, 0)) := by
      have := heap_setCell_same w b (k + i) cs.toArray e v hb
      simpa using this
    obtain ⟨w', cs', h1, h2, h3, h4, h5, h6, h7, h8, h9⟩ := run_storeCells P vs _ b k (i + 1) e (cs.set (k + i) v) hb' hone.2 (by simp; omega)
    refine ⟨w', cs', ?_, h2, fun j => ?_, by simpa using h4, fun c hc => ?_, h6, h7, h8, by simpa using h9⟩
    · simp only [storeCells, Sem.run_bind, hstore, Result.andThen_ok]
      exact h1
    · rw [h3 j]
      simp only [List.length_cons, List.getElem?_set]
      by_cases h0 : j = k + i
      · subst h0
        rw [if_neg (by omega), if_pos rfl, if_pos (by omega), if_pos (by omega)]
        simp
      · by_cases hj : k + (i + 1) ≤ j ∧ j < k + (i + 1) + vs.length
        · rw [if_pos hj, if_pos (by omega)]
          have : j - (k + i) = (j - (k + (i + 1))) + 1 := by omega
          rw [this]; simp
        · rw [if_neg hj, if_neg (by omega), if_neg (by omega)]
    · rw [h5 c hc]
      exact heap_setCell_other w _ c v hc

theorem oj_store {t b k e n : Nat} {x y : Operand} {v : Value} {vs cs cs' : List Value} {O' : List Fact} (hx : val L x = some (.pointer (some ⟨b, k, none⟩))) (hy : val L y = some v) (hc : v.cells = vs.toArray) (hone : (vs.all fun v => v.oneCell') = true) (hs : ∀ w, (sizeOf t).run C.P w = .ok n w) (hn : vs.length = n)
    [hb : HasB O b (cellsB e cs)] [hset : SetC k vs cs cs'] [hu : UpdB O b (cellsB e cs) (cellsB e cs') O'] (k' : OJ C ops Q rest L O' S) : OJ C ops Q (⟨none, .store t x y, ty, pos, aft, none⟩ :: rest) L O S := by
  intro a w hr hp
  unfold wpListIn
  rw [if_pos (by simp [Region.wanted])]
  refine ⟨fun _ _ => trivial, ?_⟩
  rw [Oper.semAt_eq _ _ _ (by intro c h; cases h)]
  obtain ⟨w', cs2, h1, h2, h3, h4, h5, h6, h7, h8, h9⟩ := run_storeCells C.P vs w b k 0 e cs (hp.hasB hb.mem) hone (by have := hset.fit; omega)
  have hcs : cs2 = cs' := by
    refine List.ext_getElem? fun j => ?_
    rw [h3 j, hset.eq j]
    simp
  subst hcs
  have hrun : (execOp a.eval ⟨none, .store t x y, ty, pos, aft, none⟩).run C.P w = .ok .skip w' := by
    simp [execOp, hr.val hx, hr.val hy, Instr.storeAt, Instr.sureAddr, storeVar, hc, hs, hn, h1]
  rw [hrun]
  show wpListIn _ _ _ _ _ _ _ _
  refine k' _ w' hr ?_
  refine hp.write hu.rep h6 h7 h8 (by omega) (fun c _ hc => h5 c hc) h2 (fun c hc => ⟨?_, .inl hc⟩)
  have hc' : c = b := hc
  subst hc'
  rw [h9]
  exact ((hp.own _ hb.mem).2 c rfl).1

/-! ### append to a slice of the function's own -/
/-- What the program says of an element's type. -/
structure ElemIs (P : Program) (t e : TypeId) (sz bytes : Nat) : Prop where
  ex : ∃ i z, P.underlying t = some (.slice e) ∧ P.info? e = some i ∧ i.zero = some z ∧ i.size = sz ∧ i.bytes = bytes ∧ z.cells.size = sz ∧ 0 < sz

theorem ow_nil {α : Type} (e : TypeId) (sz : Nat) (enc : α → List Value) (w : World) : (ow e sz enc none 0 []).P w := World.ownsRow_nil w 0 e sz

/-- A nil slice is one that the function owns. -/
theorem oj_ownNil {α : Type} {l : List Oper} (e : TypeId) (sz : Nat) (enc : α → List Value) (h : OJ C ops Q l L (ow e sz enc none 0 [] :: O) S) : OJ C ops Q l L O S := fun a w hr hp =>
  h a w hr (hp.addO (Below.refl _ _) _ (ow_nil e sz enc w) (fun b hb => by cases hb))
theorem cj_ownNil {α : Type} {c : Code} (e : TypeId) (sz : Nat) (enc : α → List Value) (h : CJ C c Q L (ow e sz enc none 0 [] :: O) S) : CJ C c Q L O S := fun a w hr hp =>
  h a w hr (hp.addO (Below.refl _ _) _ (ow_nil e sz enc w) (fun b hb => by cases hb))

theorem oj_append {α : Type} {t e : TypeId} {sz bytes c m c2 : Nat} {s x : Operand} {enc : α → List Value} {A A2 : Option Addr} {xs ys : List α} {O' : Option Addr → Nat → List Fact} (hE : ElemIs C.P t e sz bytes) (he : ∀ x, (enc x).length = sz) (hone : ∀ x, ∀ v ∈ enc x, v.oneCell' = true)
    (hs : val L s = some (.slice A xs.length c)) (hx : val L x = some (.slice A2 m c2)) (hm : m = ys.length) (hrd : Reads C O S sz enc A2 ys)
    (hlen : xs.length + ys.length ≤ maxLen) (hby : (xs.length + ys.length) * bytes ≤ 140737488355328) (hdN : Nat.blt d C.N = true)
    [hu : ∀ A' c', UpdOw O A e sz enc c xs (ow e sz enc A' c' (xs ++ ys)) (O' A' c')]
    (k : ∀ A' c', OJ C ops Q rest ((d, .slice A' (xs ++ ys).length c') :: L) (O' A' c') S) : OJ C ops Q (⟨some d, .call ⟨.builtin .append, #[s, x], #[t, t]⟩, ty, pos, aft, none⟩ :: rest) L O S := by
  intro a w hr hp
  subst hm
  have hdN' : d < C.N := by simpa [Nat.blt_eq] using hdN
  unfold wpListIn
  rw [if_pos (by simp [Region.wanted])]
  refine ⟨fun _ _ => trivial, ?_⟩
  rw [Oper.semAt_eq _ _ _ (by intro c h; cases h)]
  obtain ⟨i, z, hut, hi, hz, hsz, hbt, hzs, hpos⟩ := hE.ex
  have hmem := (hu none 0).rep.mem
  have hown : w.ownsRow 0 e sz (.slice A xs.length c) xs.length (xs.flatMap enc) := (hp.own _ hmem).1
  have key : ∃ v' w', (Builtin.append_ #[t, t] ty #[.slice A xs.length c, .slice A2 ys.length c2]).run C.P w = .ok v' w' ∧ w'.ownsRow 0 e sz v' (xs.length + ys.length) (xs.flatMap enc ++ ys.flatMap enc) ∧ w.grownBy w' (Value.slice A xs.length c).ownBlock ∧
      (v'.ownBlock = (Value.slice A xs.length c).ownBlock ∨ v'.ownBlock = some w.heap.size) := by
    by_cases hne : ys = []
    · subst hne
      refine ⟨.slice A xs.length c, w, ?_, by simpa using hown, World.grownBy.refl w _, .inl rfl⟩
      rcases hown.2 with ⟨h2, h3⟩ | ⟨g, cap, cur, hv, _, _, hnc, _⟩
      · rw [h2]
        cases A2 <;> simp [Builtin.append_, run_underlying hut, sizeOf, typeInfo, hi, Builtin.lenOf, Builtin.firstCells, loadCells, loadCellsFrom]
      · rw [hv]
        cases A2 <;> simp [Builtin.append_, run_underlying hut, sizeOf, typeInfo, hi, Builtin.lenOf, Builtin.firstCells, hnc, loadCells, loadCellsFrom, storeCells]
    · obtain ⟨ad, rfl, hc⟩ := hrd w hp hne
      have hnews : ∀ j u, (ys.flatMap enc)[j]? = some u → w.cell? (ad.add j) = some u := by
        intro j u hj
        have hjl := (List.getElem?_eq_some_iff.1 hj).1
        rw [flatMap_len enc sz he] at hjl
        have hq : j / sz < ys.length := Nat.div_lt_of_lt_mul (by rw [Nat.mul_comm]; exact hjl)
        have hy : ys[j / sz]? = some (ys[j / sz]'hq) := List.getElem?_eq_getElem hq
        have hmod : j % sz < sz := Nat.mod_lt _ hpos
        have hjj : j / sz * sz + j % sz = j := by rw [Nat.mul_comm]; exact Nat.div_add_mod j sz
        have := flatMap_get enc sz he ys (j / sz) _ (j % sz) hy hmod
        rw [hjj, hj] at this
        have h2 := hc (j / sz) _ (j % sz) u hy this.symm
        rwa [hjj] at h2
      have h1 : ∀ u ∈ ys.flatMap enc, u.oneCell' = true := by
        intro u hu
        obtain ⟨y, _, hy⟩ := List.mem_flatMap.1 hu
        exact hone y u hy
      obtain ⟨v', w', h3, h4, h5, _, h7⟩ := run_append_own_at (P := C.P) w 0 t ty e i z sz bytes hut hi hz hsz hbt hzs hpos _ _ _ hown ad ys.length c2 (ys.flatMap enc) (flatMap_len enc sz he ys) hnews h1 hlen hby (Nat.zero_le _)
      exact ⟨v', w', h3, h4, h5, h7⟩
  obtain ⟨v', w', hrun, hown', hgb, hblk⟩ := key
  have hrun' : (execOp a.eval ⟨some d, .call ⟨.builtin .append, #[s, x], #[t, t]⟩, ty, pos, aft, none⟩).run C.P w = .ok (.value v') w' := by
    simp [execOp, resolve, invoke, builtin, hr.val hs, hr.val hx, hrun]
  rw [hrun']
  show wpListIn _ _ _ _ _ _ _ _
  have hform : ∃ A' c', v' = .slice A' (xs ++ ys).length c' := by
    rcases hown'.2 with ⟨h2, h3⟩ | ⟨g, cap, cur, hv, _⟩
    · exact ⟨none, 0, by rw [h2, List.length_append, h3]⟩
    · exact ⟨_, _, by rw [hv, List.length_append]⟩
  obtain ⟨A', c', rfl⟩ := hform
  refine k A' c' _ w' (hr.put hdN' _) ?_
  have hlt := hown'.lt
  refine hp.write (hu A' c').rep hgb.os hgb.tape hgb.output hgb.size (fun b hb hnb => hgb.block b hb (fun e => hnb e.symm)) ?_ (fun b hb => ?_)
  · show w'.ownsRow 0 e sz _ _ _
    rw [List.flatMap_append, List.length_append] at *
    exact hown'
  · have hb' : (Value.slice A' (xs ++ ys).length c').ownBlock = some b := hb
    refine ⟨(hlt b hb').2, ?_⟩
    rcases hblk with h | h
    · exact .inl (h.symm.trans hb')
    · rw [hb'] at h; injection h with h; exact .inr (by omega)

/-! ### Calls -/
section
variable {f : FuncId} {xs : List Operand} {vs : List Value} {ats : Array TypeId}
theorem run_call {a : Act} (hr : RegsOk C.N C.D L a) (hf : ∀ args w, (callFunc f args).run C.P w = .ok (.enter f args) w) (hv : valsO L xs = some vs) (dst : Option Tmp) (gu : Option (Nat × Bool)) (w : World) :
    (execOp a.eval ⟨dst, .call ⟨.value (.func f), xs.toArray, ats⟩, ty, pos, aft, gu⟩).run C.P w = .ok (.enter f vs.toArray) w := by
  rw [execOp_call_go, hf]
  have := valsO_eval hr xs vs hv
  simp [← this]

/-- A call that hands back one value and turns nothing. -/
theorem y_call {dst : Option Tmp} {gu : Option (Nat × Bool)} {v : Value} (hf : ∀ args w, (callFunc f args).run C.P w = .ok (.enter f args) w) (hv : valsO L xs = some vs)
    (hc : ∀ w, Hp C.F C.w0 O S w → Calls C.P f vs.toArray w (fun e w' => e = .returned v ∧ Grow w w')) : Yi C ⟨dst, .call ⟨.value (.func f), xs.toArray, ats⟩, ty, pos, aft, gu⟩ L O S v :=
  ⟨(by intro c h; cases h), fun a w hr hp => by
    unfold YieldsV
    rw [run_call hr hf hv]
    exact ⟨rfl, hc w hp⟩⟩

/-- A call whose result is one of a family; it may lay new blocks, of which something is known. -/
theorem oj_call {X : Type} (enc : X → Value) (Ox : X → List Fact) (Sx : X → List Fact) (hf : ∀ args w, (callFunc f args).run C.P w = .ok (.enter f args) w) (hv : valsO L xs = some vs)
    (hc : ∀ w, Hp C.F C.w0 O S w → Calls C.P f vs.toArray w (fun e w' => ∃ x, e = .returned (enc x) ∧ Grow w w' ∧ (∀ g ∈ Ox x, g.P w' ∧ ∀ b, g.fp b → w.heap.size ≤ b ∧ b < w'.heap.size) ∧ (Ox x).Pairwise (fun f g => ∀ b, f.fp b → ¬ g.fp b) ∧
      (∀ g ∈ Sx x, g.P w' ∧ ∀ b, g.fp b → w.heap.size ≤ b ∧ b < w'.heap.size ∧ ∀ o ∈ Ox x, ¬ o.fp b))) (hdN : Nat.blt d C.N = true)
    (k : ∀ x, OJ C ops Q rest ((d, enc x) :: L) (Ox x ++ O) (Sx x ++ S)) : OJ C ops Q (⟨some d, .call ⟨.value (.func f), xs.toArray, ats⟩, ty, pos, aft, none⟩ :: rest) L O S := by
  intro a w hr hp
  have hdN' : d < C.N := by simpa [Nat.blt_eq] using hdN
  unfold wpListIn
  rw [if_pos (by simp [Region.wanted])]
  refine ⟨fun _ _ => trivial, ?_⟩
  rw [Oper.semAt_eq _ _ _ (by intro c h; cases h), run_call hr hf hv]
  refine ⟨fun h => (by cases h), callsIn_FR.2 ((hc w hp).mono fun e w' hx => ?_)⟩
  obtain ⟨x, rfl, hg, hO, hpw, hS⟩ := hx
  refine k x _ w' (hr.put hdN' _) ?_
  have h1 := hp.grow hg
  refine ⟨h1.os, h1.tape, h1.output, h1.size, h1.fr, fun g hg' => ?_, ?_, fun g hg' => ?_⟩
  · rcases List.mem_append.1 hg' with h | h
    · refine ⟨(hO g h).1, fun b hb => ⟨((hO g h).2 b hb).2, fun hF => ?_⟩⟩
      have h2 := (hp.fr b hF).1
      have h3 := ((hO g h).2 b hb).1
      have h4 := hp.size
      omega
    · exact h1.own g h
  · refine List.pairwise_append.2 ⟨hpw, h1.apart, fun o ho o' ho' b hb hb' => ?_⟩
    have h2 := ((hO o ho).2 b hb).1
    have h3 := ((hp.own o' ho').2 b hb').1
    omega
  · rcases List.mem_append.1 hg' with h | h
    · refine ⟨(hS g h).1, fun b hb => ((hS g h).2 b hb).2.1, fun o ho b hb hb' => ?_⟩
      rcases List.mem_append.1 ho with ho | ho
      · exact ((hS g h).2 b hb).2.2 o ho hb'
      · have h2 := ((hS g h).2 b hb).1
        have h3 := ((hp.own o ho).2 b hb').1
        omega
    · refine ⟨(h1.shared g h).1, (h1.shared g h).2.1, fun o ho b hb hb' => ?_⟩
      rcases List.mem_append.1 ho with ho | ho
      · have h2 := ((hO o ho).2 b hb').1
        have h3 := (hp.shared g h).2.1 b hb
        omega
      · exact (h1.shared g h).2.2 o ho b hb hb'

/-- A call that may turn the blocks of one exclusive assertion. -/
structure Mut (f : Fact) (w w' : World) : Prop where
  os : w'.os = w.os
  tape : w'.tape = w.tape
  output : w'.output = w.output
  size : w.heap.size ≤ w'.heap.size
  same : ∀ b, b < w.heap.size → ¬ f.fp b → w'.heap[b]? = w.heap[b]?

theorem oj_callM {X : Type} {b : Nat} {ob : Obj} (enc : X → Value) (ob' : X → Obj) {O' : X → List Fact} (hf : ∀ args w, (callFunc f args).run C.P w = .ok (.enter f args) w) (hv : valsO L xs = some vs) [hb : HasB O b ob] [hu : ∀ x, UpdB O b ob (ob' x) (O' x)]
    (hc : ∀ w, Hp C.F C.w0 O S w → Calls C.P f vs.toArray w (fun e w' => ∃ x, e = .returned (enc x) ∧ Mut (ownB b ob) w w' ∧ w'.heap[b]? = some (ob' x))) (hdN : Nat.blt d C.N = true)
    (k : ∀ x, OJ C ops Q rest ((d, enc x) :: L) (O' x) S) : OJ C ops Q (⟨some d, .call ⟨.value (.func f), xs.toArray, ats⟩, ty, pos, aft, none⟩ :: rest) L O S := by
  intro a w hr hp
  have hdN' : d < C.N := by simpa [Nat.blt_eq] using hdN
  unfold wpListIn
  rw [if_pos (by simp [Region.wanted])]
  refine ⟨fun _ _ => trivial, ?_⟩
  rw [Oper.semAt_eq _ _ _ (by intro c h; cases h), run_call hr hf hv]
  refine ⟨fun h => (by cases h), callsIn_FR.2 ((hc w hp).mono fun e w' hx => ?_)⟩
  obtain ⟨x, rfl, hm, hP⟩ := hx
  refine k x _ w' (hr.put hdN' _) ?_
  refine hp.write (hu x).rep hm.os hm.tape hm.output hm.size hm.same hP (fun c hc => ⟨?_, .inl hc⟩)
  have hc' : c = b := hc
  subst hc'
  exact Nat.lt_of_lt_of_le ((hp.own _ hb.mem).2 c rfl).1 hm.size
end
end
end Go.Sx
