/- The rules in the forms that a program prints: guarded runs, loops and cuts whose lists are met by instances, calls whose result is a slice. Conditions: none; a library of lemmas. -/
import Derived.Test.YtafmgkiddhappaaDoorSxE
namespace Go.Sx
open Go.RowKit

/-! ### Sublists by instances -/
class SubO (O' O : List Fact) : Prop where
  sub : O'.Sublist O
instance (priority := 1200) SubO.same (O : List Fact) : SubO O O := ⟨.refl _⟩
instance (priority := 1100) SubO.nil (O : List Fact) : SubO [] O := ⟨List.nil_sublist _⟩
instance (priority := 1000) SubO.both (f : Fact) (O' O : List Fact) [h : SubO O' O] : SubO (f :: O') (f :: O) := ⟨h.sub.cons_cons f⟩
instance (priority := 900) SubO.drop (f : Fact) (O' O : List Fact) [h : SubO O' O] : SubO O' (f :: O) := ⟨h.sub.cons f⟩

/-! ### Runs under a guard -/
/-- More knowledge serves as well. -/
class Anti (K : Regs → Prop) : Prop where
  anti : ∀ L1 L2 : Regs, (∀ t u, look L1 t = some u → look L2 t = some u) → K L1 → K L2

section
variable {C : Cx} {Q : Exit → Act → World → Prop} {L : Regs} {O S : List Fact} {ops : Array Oper}

theorem aj_anti {K : Act → World → Prop} {L1 L2 : Regs} (h : ∀ t u, look L1 t = some u → look L2 t = some u) (hk : AJ C K L1 O S) : AJ C K L2 O S := fun a w hr hp => hk a w (hr.sub h) hp
instance (e : Exit) : Anti (fun L' => EJ C Q e L' O S) := ⟨fun _ _ h hk => aj_anti h hk⟩
instance (l : List Oper) : Anti (fun L' => OJ C ops Q l L' O S) := ⟨fun _ _ h hk => aj_anti h hk⟩
instance (d : Nat) (v : Value) : Anti (fun L' => look L' d = some v) := ⟨fun _ _ h hk => h _ _ hk⟩

theorem gj_anti {K : Regs → Prop} [hK : Anti K] : ∀ (l : List Oper) (L1 L2 : Regs), (∀ t u, look L1 t = some u → look L2 t = some u) → GJ C ops O S l L1 K → GJ C ops O S l L2 K
  | [], L1, L2, h, hk => hK.anti L1 L2 h hk
  | o :: l, L1, L2, h, ⟨v, d, hd, hdN, hs, hk⟩ => ⟨v, d, hd, hdN, fun a w hr hp => hs a w (hr.sub h) hp, gj_anti l _ _ (fun t u ht => by
      rw [look_cons] at ht ⊢
      by_cases e : d = t
      · rw [if_pos e] at ht ⊢; exact ht
      · rw [if_neg e] at ht ⊢; exact h t u ht) hk⟩

/-- No entry of the list is written by the run. -/
def freshR (blk : List Oper) : Regs → Bool
  | [] => true
  | p :: r => blk.all (fun o => match o.dst with | some d => !(Nat.beq d p.1) | none => true) && freshR blk r
theorem freshR_look {blk : List Oper} : ∀ {L : Regs}, freshR blk L = true → ∀ t u, look L t = some u → blk.all (fun o => o.dst != some t) = true
  | [], _, t, u, h => by cases h
  | p :: r, hf, t, u, h => by
    obtain ⟨k, v⟩ := p
    simp only [freshR, Bool.and_eq_true] at hf
    rw [look_cons] at h
    by_cases e : k = t
    · subst e
      refine List.all_eq_true.2 fun o ho => ?_
      have := List.all_eq_true.1 hf.1 o ho
      cases hd : o.dst with
      | none => simp
      | some d =>
        simp only [hd] at this
        have hne : d ≠ k := fun e => by subst e; simp at this
        simp [hne]
    · rw [if_neg e] at h
      exact freshR_look hf.2 t u h

theorem gj_g {l : List Oper} {K : Regs → Prop} [hK : Anti K] (m dj d : Nat) {b g : Bool} {v : Value} (hl : look L dj = some (.bool g)) (hs : skips ops C.N dj b (l.take m) [] = true) (hd : (l.take m).any (fun o => o.dst == some d) = true) (hf : freshR (l.take m) L = true)
    (hy : g = b → GJ C ops O S (l.take m) ((dj, .bool b) :: L) (fun L' => look L' d = some v))
    (k : GJ C ops O S (l.drop m) ((d, gd g b v) :: L) K) : GJ C ops O S l L K :=
  gj_guard m hl hs hd hy fun L' h1 h2 => gj_anti _ _ _ (fun t u ht => by
    rw [look_cons] at ht
    by_cases e : d = t
    · subst e; rw [if_pos rfl] at ht; rw [h2]; exact ht
    · rw [if_neg e] at ht
      exact h1 t u ht (freshR_look hf t u ht)) k

theorem cj_regionG {id : Nat} {l : List Oper} (h : GJ C l.toArray O S l L (fun L' => EJ C Q .normal L' O S)) : CJ C (.region id l.toArray false) Q L O S := by
  refine cj_region ?_
  have := oj_of_gj (C := C) (Q := Q) (ops := l.toArray) [] l L (gj_mono (fun L' h => oj_nil h) l L h)
  rwa [List.append_nil] at this
/-- In a region with other operations: the first m ones. -/
theorem oj_gj {l : List Oper} (m : Nat) (h : GJ C ops O S (l.take m) L (fun L' => OJ C ops Q (l.drop m) L' O S)) : OJ C ops Q l L O S := by
  rw [← List.take_append_drop m l]
  exact oj_of_gj _ _ _ h

/-! ### Loops, cuts -/
theorem cj_lp {c : Code} {X : Type} (inv : X → Prop) (Lx : X → Regs) (Ox Sx : X → List Fact) (μ : X → Nat) (x0 : X) (h0 : inv x0) (hL : subR L (Lx x0)) [hO : SubO (Ox x0) O] [hS : SubO (Sx x0) S]
    (round : ∀ x, inv x → CJ C c (Exit.then (fun a w => ∃ x', μ x' < μ x ∧ LoopI C inv Lx Ox Sx x' a w) Q) (Lx x) (Ox x) (Sx x)) : CJ C (.loop c) Q L O S :=
  cj_loop inv Lx Ox Sx μ x0 h0 hL hO.sub (fun _ hf => hS.sub.subset hf) round
theorem ej_nx {X : Type} {inv : X → Prop} {Lx : X → Regs} {Ox Sx : X → List Fact} {μ : X → Nat} {m : Nat} (x' : X) (hm : μ x' < m) (hi : inv x') (hL : subR L (Lx x')) [hO : SubO (Ox x') O] [hS : SubO (Sx x') S] :
    EJ C (Exit.then (fun a w => ∃ x', μ x' < m ∧ LoopI C inv Lx Ox Sx x' a w) Q) .normal L O S :=
  ej_next x' hm hi hL hO.sub (fun _ hf => hS.sub.subset hf)
theorem ej_ct {X : Type} {inv : X → Prop} {Lx : X → Regs} {Ox Sx : X → List Fact} (x' : X) (hi : inv x') (hL : subR L (Lx x')) [hO : SubO (Ox x') O] [hS : SubO (Sx x') S] :
    EJ C (Exit.then (fun a w => ∃ x, LoopI C inv Lx Ox Sx x a w) Q) .normal L O S :=
  ej_cut x' hi hL hO.sub (fun _ hf => hS.sub.subset hf)
/-- A loop, a cut whose rounds leave memory's lists as they are. -/
theorem cj_lpc {c : Code} {X : Type} (inv : X → Prop) (Lx : X → Regs) (μ : X → Nat) (x0 : X) (h0 : inv x0) (hL : subR L (Lx x0))
    (round : ∀ x, inv x → CJ C c (Exit.then (fun a w => ∃ x', μ x' < μ x ∧ LoopI C inv Lx (fun _ => O) (fun _ => S) x' a w) Q) (Lx x) O S) : CJ C (.loop c) Q L O S :=
  cj_loop inv Lx (fun _ => O) (fun _ => S) μ x0 h0 hL (.refl _) (fun _ hf => hf) round
theorem cj_cutc {x y : Code} {X : Type} (inv : X → Prop) (Lx : X → Regs)
    (h1 : CJ C x (Exit.then (fun a w => ∃ x, LoopI C inv Lx (fun _ => O) (fun _ => S) x a w) Q) L O S) (h2 : ∀ x, inv x → CJ C y Q (Lx x) O S) : CJ C (.seq x y) Q L O S :=
  cj_cut inv Lx (fun _ => O) (fun _ => S) h1 h2
/-- Forget. -/
theorem cj_wk {c : Code} (L' : Regs) (O' S' : List Fact) (hL : subR L L') [hO : SubO O' O] [hS : SubO S' S] (h : CJ C c Q L' O' S') : CJ C c Q L O S := aj_sub h hL hO.sub (fun _ hf => hS.sub.subset hf)
end

/-! ### What a contract takes and gives -/
section
variable {α : Type}
/-- The slice reads as xs in this world. -/
def Rd (w : World) (sz : Nat) (enc : α → List Value) (A : Option Addr) (xs : List α) : Prop := (sl (fun b => b < w.heap.size) sz enc A xs).P w
/-- The slice reads as xs, and lies in blocks that are new since w. -/
def Res (w w' : World) (sz : Nat) (enc : α → List Value) (A : Option Addr) (xs : List α) : Prop := (sl (fun b => w.heap.size ≤ b ∧ b < w'.heap.size) sz enc A xs).P w'

theorem sl_fp {fp fp' : Nat → Prop} {sz : Nat} {enc : α → List Value} {A : Option Addr} {xs : List α} {w : World} (h : (sl fp sz enc A xs).P w) (hf : ∀ b, fp b → fp' b) : (sl fp' sz enc A xs).P w :=
  ⟨h.1, fun hne => let ⟨a, ha, hb, hc⟩ := h.2 hne; ⟨a, ha, hf _ hb, hc⟩⟩
theorem Rd.nil {w : World} {sz : Nat} {enc : α → List Value} {A : Option Addr} : Rd w sz enc A [] := ⟨Nat.zero_le _, fun h => absurd rfl h⟩
theorem Res.nil {w w' : World} {sz : Nat} {enc : α → List Value} {A : Option Addr} : Res w w' sz enc A [] := ⟨Nat.zero_le _, fun h => absurd rfl h⟩
theorem Rd.len {w : World} {sz : Nat} {enc : α → List Value} {A : Option Addr} {xs : List α} (h : Rd w sz enc A xs) : xs.length ≤ 9223372036854775807 := by have := h.1; unfold maxLen at this; omega
theorem Rd.ne {w : World} {sz : Nat} {enc : α → List Value} {A : Option Addr} {xs : List α} (h : Rd w sz enc A xs) (hne : 0 < xs.length) : A ≠ none := by
  obtain ⟨a, rfl, _⟩ := h.2 (by rintro rfl; simp at hne)
  simp
theorem Rd.mono {w w' : World} {sz : Nat} {enc : α → List Value} {A : Option Addr} {xs : List α} (h : Rd w sz enc A xs) (hg : Grow w w') : Rd w' sz enc A xs :=
  sl_fp ((sl (fun b => b < w.heap.size) sz enc A xs).stab (fun b hb => hg.block b hb) h) (fun _ hb => Nat.lt_of_lt_of_le hb hg.size)

variable {C : Cx} {O S : List Fact} {w : World}
theorem Hp.rd {F : Nat → Prop} {w0 : World} (hp : Hp F w0 O S w) {A : Option Addr} {fp : Nat → Prop} {sz : Nat} {enc : α → List Value} {xs : List α} [h : HasSl S A fp sz enc xs] : Rd w sz enc A xs :=
  sl_fp (hp.shared _ h.mem).1 (hp.shared _ h.mem).2.1
theorem Hp.rdO {F : Nat → Prop} {w0 : World} (hp : Hp F w0 O S w) {A : Option Addr} {e : TypeId} {c sz : Nat} {enc : α → List Value} {xs : List α} [h : HasOw O A e sz enc c xs] (he : ∀ x, (enc x).length = sz) (hm : xs.length ≤ maxLen) : Rd w sz enc A xs := by
  refine ⟨hm, fun hne => ?_⟩
  obtain ⟨a, ha, hc⟩ := ow_cells (hp.own _ h.mem).1 he hne
  refine ⟨a, ha, ((hp.own _ h.mem).2 a.block ?_).1, hc⟩
  rw [ha]; rfl

variable {Q : Exit → Act → World → Prop} {ops : Array Oper} {rest : List Oper} {L : Regs} {ty : TypeId} {pos : String} {aft : Array Edge} {d : Nat} {f : FuncId} {xs : List Operand} {vs : List Value} {ats : Array TypeId}

/-- A call whose result holds one new slice that is only read from here on. -/
theorem oj_callS (enc : Option Addr → Nat → Value) (sz : Nat) (encE : α → List Value) (ys : List α) (hf : ∀ args w, (callFunc f args).run C.P w = .ok (.enter f args) w) (hv : valsO L xs = some vs)
    (hc : ∀ w, Hp C.F C.w0 O S w → Calls C.P f vs.toArray w (fun e w' => ∃ A c, e = .returned (enc A c) ∧ Grow w w' ∧ Res w w' sz encE A ys)) (hdN : Nat.blt d C.N = true)
    (k : ∀ A c fp, (∀ b, fp b → C.w0.heap.size ≤ b) → OJ C ops Q rest ((d, enc A c) :: L) O (sl fp sz encE A ys :: S)) : OJ C ops Q (⟨some d, .call ⟨.value (.func f), xs.toArray, ats⟩, ty, pos, aft, none⟩ :: rest) L O S :=
  oj_call (X := { x : Option Addr × Nat × Nat × Nat // C.w0.heap.size ≤ x.2.2.1 }) (fun x => enc x.1.1 x.1.2.1) (fun _ => []) (fun x => [sl (fun b => x.1.2.2.1 ≤ b ∧ b < x.1.2.2.2) sz encE x.1.1 ys]) hf hv
    (fun w hp => (hc w hp).mono fun e w' ⟨A, c, he, hg, hr⟩ => ⟨⟨(A, c, w.heap.size, w'.heap.size), hp.size⟩, he, hg, by simp, by simp, fun g hg' => by
      simp only [List.mem_singleton] at hg'
      subst hg'
      exact ⟨hr, fun b hb => ⟨hb.1, hb.2, by simp⟩⟩⟩) hdN (fun x => k x.1.1 x.1.2.1 _ (fun _ hb => Nat.le_trans x.2 hb.1))

/-- A call whose result holds one new slice that the caller owns. -/
theorem oj_callO (enc : Option Addr → Nat → Value) (e0 : TypeId) (sz : Nat) (encE : α → List Value) (ys : List α) (hf : ∀ args w, (callFunc f args).run C.P w = .ok (.enter f args) w) (hv : valsO L xs = some vs)
    (hc : ∀ w, Hp C.F C.w0 O S w → Calls C.P f vs.toArray w (fun e w' => ∃ A c, e = .returned (enc A c) ∧ Grow w w' ∧ (ow e0 sz encE A c ys).P w' ∧ ∀ b, (ow e0 sz encE A c ys).fp b → w.heap.size ≤ b)) (hdN : Nat.blt d C.N = true)
    (k : ∀ A c, OJ C ops Q rest ((d, enc A c) :: L) (ow e0 sz encE A c ys :: O) S) : OJ C ops Q (⟨some d, .call ⟨.value (.func f), xs.toArray, ats⟩, ty, pos, aft, none⟩ :: rest) L O S :=
  oj_call (X := Option Addr × Nat) (fun x => enc x.1 x.2) (fun x => [ow e0 sz encE x.1 x.2 ys]) (fun _ => []) hf hv
    (fun w hp => (hc w hp).mono fun e w' ⟨A, c, he, hg, hr, hn⟩ => ⟨(A, c), he, hg, fun g hg' => by
      simp only [List.mem_singleton] at hg'
      subst hg'
      refine ⟨hr, fun b hb => ⟨hn b hb, ?_⟩⟩
      exact (World.ownsRow.lt hr b hb).2, by simp, by simp⟩) hdN (fun x => k x.1 x.2)

/-- What an owned slice is to the caller, at the end. -/
theorem Hp.res {w0 : World} (hp : Hp (fun b => b < w0.heap.size) w0 O S w) {A : Option Addr} {e : TypeId} {c sz : Nat} {enc : α → List Value} {xs : List α} [h : HasOw O A e sz enc c xs] (he : ∀ x, (enc x).length = sz) (hm : xs.length ≤ maxLen) : Res w0 w sz enc A xs := by
  refine ⟨hm, fun hne => ?_⟩
  obtain ⟨a, ha, hc⟩ := ow_cells (hp.own _ h.mem).1 he hne
  have hb := (hp.own _ h.mem).2 a.block (by rw [ha]; rfl)
  exact ⟨a, ha, ⟨Nat.le_of_not_lt hb.2, hb.1⟩, hc⟩
theorem Hp.resO {w0 : World} (hp : Hp (fun b => b < w0.heap.size) w0 O S w) {A : Option Addr} {e : TypeId} {c sz : Nat} {enc : α → List Value} {xs : List α} [h : HasOw O A e sz enc c xs] : (ow e sz enc A c xs).P w ∧ ∀ b, (ow e sz enc A c xs).fp b → w0.heap.size ≤ b :=
  ⟨(hp.own _ h.mem).1, fun b hb => Nat.le_of_not_lt ((hp.own _ h.mem).2 b hb).2⟩
/-- A shared slice whose blocks are known to be new (it came out of a call). -/
theorem Hp.resS {F : Nat → Prop} {w0 : World} (hp : Hp F w0 O S w) {A : Option Addr} {fp : Nat → Prop} {sz : Nat} {enc : α → List Value} {xs : List α} [h : HasSl S A fp sz enc xs] (hn : ∀ b, fp b → w0.heap.size ≤ b) : Res w0 w sz enc A xs :=
  sl_fp (hp.shared _ h.mem).1 (fun b hb => ⟨hn b hb, (hp.shared _ h.mem).2.1 b hb⟩)
end

/-- Integers as elements. -/
abbrev enInt (n : Int) : List Value := [.int .i64 n]
abbrev enStr (s : ByteArray) : List Value := [.string s]
theorem enInt_len (x : Int) : (enInt x).length = 1 := rfl
theorem enStr_len (x : ByteArray) : (enStr x).length = 1 := rfl
theorem enInt_one (x : Int) : ∀ v ∈ enInt x, v.oneCell' = true := by simp [enInt, Value.oneCell']
theorem enStr_one (x : ByteArray) : ∀ v ∈ enStr x, v.oneCell' = true := by simp [enStr, Value.oneCell']
end Go.Sx
namespace Go.Sx
open Go.RowKit
section
variable {α : Type} {C : Cx} {L : Regs} {O S : List Fact} {dst : Option Tmp} {ty : TypeId} {pos : String} {aft : Array Edge} {gu : Option (Nat × Bool)} {x y : Operand}
/-- An element's place in a slice that reads as a list. -/
theorem y_ixR {s e n c sz : Nat} {A : Option Addr} {i : Int} {k : IntKind} {enc : α → List Value} {xs : List α} (hr0 : Reads C O S sz enc A xs) (hu : C.P.underlying s = some (.slice e)) (hs : ∀ w, (sizeOf e).run C.P w = .ok n w) (hx : val L x = some (.slice A xs.length c)) (hy : val L y = some (.int k i)) (hi : 0 ≤ i ∧ i < xs.length) :
    Yi C ⟨dst, .indexAddr s x y, ty, pos, aft, gu⟩ L O S (.pointer (some (at_ A (i.toNat * n)))) :=
  ⟨(by intro c h; cases h), fun a w hr hp => by
    obtain ⟨ad, rfl, _⟩ := hr0 w hp (by rintro rfl; simp at hi; omega)
    exact (y_ix (O := O) (S := S) hu hs hx hy hi (by simp)).2 a w hr hp⟩
theorem geq {xs : List α} {i : Nat} (d : α) (h : i < xs.length) : xs[i]? = some (xs.getD i d) := by
  rw [List.getD_eq_getElem?_getD, List.getElem?_eq_getElem h]; rfl
/-- Any binary operation whose run is known. -/
theorem y_bin {op : BinOp} {t t' : TypeId} {u v r : Value} (hx : val L x = some u) (hy : val L y = some v) (h : ∀ (x y : Operand) (w : World), (do eqGuard op t x y u v; binOp op t u v : Sem Value).run C.P w = .ok r w) : Yi C ⟨dst, .binOp op t x y t', ty, pos, aft, gu⟩ L O S r :=
  yi_val (by intro c h; cases h) fun a w hr _ => by
    have := h x y w
    simp only [execOp, hr.val hx, hr.val hy]
    rw [Sem.run_bind, this]; rfl
/-- A conjunction that is no longer guarded. -/
theorem y_pick {c : Operand} {g : Bool} {u v : Value} (hc : val L c = some (.bool g)) (hx : val L x = some u) (hy : val L y = some v) : Yi C ⟨dst, .pick c x y, ty, pos, aft, gu⟩ L O S (bif g then u else v) :=
  yi_val (by intro c h; cases h) fun a w hr _ => by
    simp only [execOp, hr.val hc, hr.val hx, hr.val hy]
    cases g <;> simp [asBool]
theorem y_makeFunc {fn : Fn} {first cap : List Operand} {vf vc : List Value} (hf : valsO L first = some vf) (hc : valsO L cap = some vc) : Yi C ⟨dst, .makeFunc fn first.toArray cap.toArray, ty, pos, aft, gu⟩ L O S (.func fn vf.toArray vc.toArray) :=
  yi_val (by intro c h; cases h) fun a w hr _ => by
    have h1 := valsO_eval hr first vf hf
    have h2 := valsO_eval hr cap vc hc
    simp [execOp, Instr.makeFunc, ← h1, ← h2]
theorem y_iface {t : TypeId} {v : Value} (hx : val L x = some v) (ht : C.P.concrete t = true) : Yi C ⟨dst, .makeInterface t x, ty, pos, aft, gu⟩ L O S (.iface t v) :=
  yi_val (by intro c h; cases h) fun a w hr _ => by
    simp [execOp, hr.val hx, run_makeInterface (P := C.P) (w := w) t v ht]
/-- A slice of a slice. -/
theorem y_slice {t e sz N c : Nat} {A : Option Addr} {lo hi : Option Operand} {l h : Nat} (hu : C.P.underlying t = some (.slice e)) (hs : ∀ w, (sizeOf e).run C.P w = .ok sz w) (hx : val L x = some (.slice A N c))
    (hlo : match lo with | some o => val L o = some (.int .i64 (l : Nat)) | none => l = 0) (hhi : match hi with | some o => val L o = some (.int .i64 (h : Nat)) | none => h = N) (hlh : l ≤ h) (hhN : h ≤ c) :
    Yi C ⟨dst, .slice t x lo hi none, ty, pos, aft, gu⟩ L O S (.slice (if c = l then A else A.map (·.add (l * sz))) (h - l) (c - l)) :=
  yi_val (by intro c h; cases h) fun a w hr _ => by
    have h1 : (lo.map a.eval) = lo.map (fun _ => Value.int .i64 (l : Nat)) := by
      cases lo with
      | none => rfl
      | some o => simp only [Option.map_some]; rw [hr.val hlo]
    have h2 : (hi.map a.eval) = hi.map (fun _ => Value.int .i64 (h : Nat)) := by
      cases hi with
      | none => rfl
      | some o => simp only [Option.map_some]; rw [hr.val hhi]
    simp only [execOp, hr.val hx, Instr.sliceAt, Sem.run_bind, run_underlying hu, Result.andThen_ok, Instr.slice, Option.map_none]
    rw [h1, h2]
    cases lo <;> cases hi <;> simp_all [Instr.sliceBounds, Instr.sliceBound, asIntOf] <;> omega
end
end Go.Sx
namespace Go.Sx
/-- A test's outcome, as a statement: all in one name. -/
theorem sxb : (∀ b : Bool, ((!b) = true) = (b = false)) ∧ (∀ b : Bool, ((!b) = false) = (b = true)) ∧ (∀ (p : Prop) [Decidable p], (decide p = true) = p) ∧ (∀ (p : Prop) [Decidable p], (decide p = false) = ¬ p) ∧
    (∀ a b : Bool, ((a && b) = true) = (a = true ∧ b = true)) ∧ (∀ a b : Bool, ((a || b) = true) = (a = true ∨ b = true)) ∧ (∀ a b : Bool, ((a && b) = false) = (a = false ∨ b = false)) ∧ (∀ a b : Bool, ((a || b) = false) = (a = false ∧ b = false)) ∧
    (∀ a b : Int, ((a == b) = true) = (a = b)) ∧ (∀ a b : Int, ((a != b) = true) = (a ≠ b)) ∧ (∀ a b : Int, ((a == b) = false) = (a ≠ b)) ∧ (∀ a b : Int, ((a != b) = false) = (a = b)) ∧ (∀ a b : Int, (¬ a < b) = (b ≤ a)) ∧ (∀ a b : Int, (¬ a ≤ b) = (b < a)) :=
  ⟨by simp, by simp, by simp, by simp, by simp, by simp, by simp, by simp, by simp, by simp, by simp, by simp, by simp, by simp⟩
end Go.Sx
