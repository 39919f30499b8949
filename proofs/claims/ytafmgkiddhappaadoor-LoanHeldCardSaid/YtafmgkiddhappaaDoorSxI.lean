/- Parts of slices; literals; what the heap's assertion says by itself. Conditions: none; a library of lemmas. -/
import Derived.Test.YtafmgkiddhappaaDoorSxH
namespace Go.Sx
open Go.RowKit

section
variable {α : Type} {C : Cx} {Q : Exit → Act → World → Prop} {L : Regs} {O S : List Fact} {ops : Array Oper} {rest : List Oper} {ty : TypeId} {pos : String} {aft : Array Edge} {dst : Option Tmp} {gu : Option (Nat × Bool)} {x : Operand}

/-- Where a part of a slice begins. -/
def subA (A : Option Addr) (c l sz : Nat) : Option Addr := if c = l then A else A.map (·.add (l * sz))

theorem y_sliceR {t e sz c : Nat} {A : Option Addr} {xs : List α} {lo hi : Option Operand} (l h : Nat) (hu : C.P.underlying t = some (.slice e)) (hs : ∀ w, (sizeOf e).run C.P w = .ok sz w) (hx : val L x = some (.slice A xs.length c))
    (hlo : match lo with | some o => val L o = some (.int .i64 (l : Nat)) | none => l = 0) (hhi : match hi with | some o => val L o = some (.int .i64 (h : Nat)) | none => h = xs.length) (hlh : l ≤ h) (hhN : h ≤ xs.length) (hc : xs.length ≤ c) :
    Yi C ⟨dst, .slice t x lo hi none, ty, pos, aft, gu⟩ L O S (.slice (subA A c l sz) ((xs.take h).drop l).length (c - l)) := by
  have := y_slice (C := C) (O := O) (S := S) (dst := dst) (ty := ty) (pos := pos) (aft := aft) (gu := gu) hu hs hx hlo hhi hlh (Nat.le_trans hhN hc)
  rw [show ((xs.take h).drop l).length = h - l by simp; omega]
  exact this

theorem reads_sub {sz c : Nat} {enc : α → List Value} {A : Option Addr} {xs : List α} (hr : Reads C O S sz enc A xs) (l h : Nat) (hc : xs.length ≤ c) : Reads C O S sz enc (subA A c l sz) ((xs.take h).drop l) := by
  intro w hp hne
  have hl : l < h ∧ l < xs.length := by
    have : ((xs.take h).drop l).length ≠ 0 := fun e => hne (List.eq_nil_of_length_eq_zero e)
    simp at this; omega
  obtain ⟨a, rfl, hcell⟩ := hr w hp (by rintro rfl; simp at hl)
  refine ⟨a.add (l * sz), by simp [subA, show c ≠ l by omega], fun i y j u hy hu => ?_⟩
  rw [add_add, show l * sz + (i * sz + j) = (l + i) * sz + j by rw [Nat.add_mul]; omega]
  refine hcell (l + i) y j u ?_ hu
  rw [List.getElem?_drop] at hy
  have h1 : l + i < h := by
    have := (List.getElem?_eq_some_iff.1 hy).1
    simp at this; omega
  rwa [List.getElem?_take_of_lt h1] at hy

/-- A block of one's own that was laid as a literal. -/
theorem reads_lit {sz b e : Nat} {enc : α → List Value} (xs : List α) {cs : List Value} [h : HasB O b (cellsB e cs)] (he : ∀ x, (enc x).length = sz) (hcs : xs.flatMap enc = cs) : Reads C O S sz enc (some ⟨b, 0, none⟩) xs := by
  intro w hp _
  refine ⟨_, rfl, fun i y j u hy hu => ?_⟩
  have hj : j < sz := by have := (List.getElem?_eq_some_iff.1 hu).1; rw [he] at this; exact this
  rw [addr_add, cell_of_row w b _ cs.toArray e (0, 0) (hp.hasB h.mem)]
  have := flatMap_get enc sz he xs i y j hy hj
  rw [hcs, hu] at this
  simpa using this

theorem reads_owI {A : Option Addr} {e : TypeId} {c : Nat} {xs : List Int} [h : HasOw O A e 1 enInt c xs] : Reads C O S 1 enInt A xs := reads_ow enInt_len
theorem oj_get {p : Prop} (h : ∀ w, Hp C.F C.w0 O S w → p) (k : p → OJ C ops Q rest L O S) : OJ C ops Q rest L O S := fun a w hr hp => k (h w hp) a w hr hp
/-- The same facts in other words. -/
theorem cj_eqO {c : Code} (O' : List Fact) (h : O = O') (k : CJ C c Q L O' S) : CJ C c Q L O S := by subst h; exact k
theorem cj_eqL {c : Code} (L' : Regs) (h : L = L') (k : CJ C c Q L' O S) : CJ C c Q L O S := by subst h; exact k
theorem ej_eqO {e : Exit} (O' : List Fact) (h : O = O') (k : EJ C Q e L O' S) : EJ C Q e L O S := by subst h; exact k
theorem cj_get {p : Prop} {c : Code} (h : ∀ w, Hp C.F C.w0 O S w → p) (k : p → CJ C c Q L O S) : CJ C c Q L O S := fun a w hr hp => k (h w hp) a w hr hp
theorem Hp.owCap {F : Nat → Prop} {w0 w : World} (hp : Hp F w0 O S w) {A : Option Addr} {e : TypeId} {c sz : Nat} {enc : α → List Value} {xs : List α} [h : HasOw O A e sz enc c xs] : xs.length ≤ c := by
  have h1 : w.ownsRow 0 e sz (.slice A xs.length c) xs.length (xs.flatMap enc) := (hp.own _ h.mem).1
  rcases h1.2 with ⟨h2, h3⟩ | ⟨g, cap, cur, hv, _, _, h4, _⟩
  · omega
  · injection hv with _ _ hc; omega
end

/-! ### A function that is handed a block of its caller's -/
theorem enter_own {P : Program} {f : FuncId} {fn : Func} {c : Code} {args : List Value} {w : World} {R : Ending → World → Prop} (b : Nat) (ob : Obj) (S : List Fact)
    (hf : P.funcs[f]? = some fn) (hb : fn.body = some c) (hn : args.length ≤ fn.ntmps) (hob : w.heap[b]? = some ob) (hS : ∀ g ∈ S, g.P w ∧ ∀ i, g.fp i → i < w.heap.size ∧ i ≠ b)
    (h : CJ ⟨P, none, fun i => i < w.heap.size ∧ i ≠ b, w, fn.ntmps, []⟩ c (bodyPost P fn R) (regsOf 0 args) [ownB b ob] S) : Calls P f args.toArray w R := by
  have hlt : b < w.heap.size := (Array.getElem?_eq_some_iff.1 hob).1
  refine enter (fun i => i < w.heap.size ∧ i ≠ b) [ownB b ob] S hf hb hn ⟨rfl, rfl, rfl, Nat.le_refl _, fun i hi => ⟨hi.1, rfl⟩, fun g hg => ?_, by simp, fun g hg => ⟨(hS g hg).1, fun i hi => ((hS g hg).2 i hi).1, fun o ho i hi hio => ?_⟩⟩ h
  · simp only [List.mem_singleton] at hg
    subst hg
    exact ⟨hob, fun i hi => by
      have : i = b := hi
      subst this
      exact ⟨hlt, fun h => h.2 rfl⟩⟩
  · simp only [List.mem_singleton] at ho
    subst ho
    exact ((hS g hg).2 i hi).2 hio
theorem Hp.mut {b : Nat} {ob : Obj} {w w' : World} {O S : List Fact} (hp : Hp (fun i => i < w.heap.size ∧ i ≠ b) w O S w') : Mut (ownB b ob) w w' :=
  ⟨hp.os, hp.tape, hp.output, hp.size, fun i hi hne => (hp.fr i ⟨hi, hne⟩).2⟩
theorem Hp.own1 {F : Nat → Prop} {w0 w : World} {O S : List Fact} (hp : Hp F w0 O S w) {b : Nat} {ob : Obj} [h : HasB O b ob] : w.heap[b]? = some ob := hp.hasB h.mem
/-- The slice reads as xs, and has no part in block b. -/
def RdX {α : Type} (w : World) (b : Nat) (sz : Nat) (enc : α → List Value) (A : Option Addr) (xs : List α) : Prop := (sl (fun i => i < w.heap.size ∧ i ≠ b) sz enc A xs).P w
theorem Hp.rdX {α : Type} {F : Nat → Prop} {w0 w : World} {O S : List Fact} (hp : Hp F w0 O S w) {A : Option Addr} {fp : Nat → Prop} {sz b : Nat} {ob : Obj} {enc : α → List Value} {xs : List α} [h : HasSl S A fp sz enc xs] [hb : HasB O b ob] : RdX w b sz enc A xs :=
  sl_fp (hp.shared _ h.mem).1 (fun i hi => ⟨(hp.shared _ h.mem).2.1 i hi, fun e => (hp.shared _ h.mem).2.2 _ hb.mem i hi e⟩)
end Go.Sx
