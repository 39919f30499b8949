/- Texts of ours, joined: 7 of them. Conditions: none. -/
import Derived.Test.YtppfniekcgnmjaaGreatZa
import Derived.ChangeMaps3
import Derived.WideShapes
import Derived.Laws.Strings
import Derived.Laws.StructEq
import Derived.MapKept
import Derived.Laws.MakeOwn
namespace Go.Sx
open Go.RowKit

/-- How keys lie in a map: what is asked of them. -/
class KeyE {K : Type} [DecidableEq K] (ek : K → Value) (kd : outParam TypeDesc) : Prop where
  same : ∀ a b, Instr.sameNow kd (ek a) (ek b) = some (decide (b = a))
  bits : ∀ a, Instr.sameBits 10000 (ek a) (ek a) = true
  check : ∀ (P : Program) (t : TypeId) (c : Bool) (w : World) (a : K), P.underlying t = some kd → (Instr.checkKey c 10000 t (ek a)).run P w = .ok () w

abbrev ekI (n : Int) : Value := .int .i64 n
abbrev ekS (s : ByteArray) : Value := .string s
theorem check_int (P : Program) (t : TypeId) (c : Bool) (w : World) (a : Int) (n : Nat) (h : P.underlying t = some (.int .i64)) : (Instr.checkKey c (n + 1) t (.int .i64 a)).run P w = .ok () w := by
  simp [Instr.checkKey, run_underlying h]
theorem check_str (P : Program) (t : TypeId) (c : Bool) (w : World) (a : ByteArray) (n : Nat) (h : P.underlying t = some .string) : (Instr.checkKey c (n + 1) t (.string a)).run P w = .ok () w := by
  simp [Instr.checkKey, run_underlying h]
theorem bytes_beq (a b : ByteArray) : (a == b) = decide (b = a) := by
  rw [beq_toListBytes, ByteArray.toList_eq, ByteArray.toList_eq]
  by_cases h : b = a
  · subst h; simp
  · rw [decide_eq_false h]
    cases hb : (a.data.toList == b.data.toList) with
    | false => rfl
    | true => exact absurd (WideShapes.bytes_inj (by simpa using hb)).symm h
theorem same_int (a b : Int) : Instr.sameNow (.int .i64) (.int .i64 a) (.int .i64 b) = some (decide (b = a)) := by
  simp only [Instr.sameNow, if_true]
  congr 1
  by_cases h : a = b
  · subst h; simp
  · rw [decide_eq_false (fun e => h e.symm)]; simpa using h
theorem same_str (a b : ByteArray) : Instr.sameNow .string (.string a) (.string b) = some (decide (b = a)) := by
  simp only [Instr.sameNow]
  rw [bytes_beq]
theorem bits_int (a : Int) (n : Nat) : Instr.sameBits n (.int .i64 a) (.int .i64 a) = true := by unfold Instr.sameBits; simp
theorem bits_str (a : ByteArray) (n : Nat) : Instr.sameBits n (.string a) (.string a) = true := by unfold Instr.sameBits; rw [bytes_beq]; simp
instance : KeyE ekI (.int .i64) := ⟨same_int, fun a => bits_int a 10000, fun P t c w a h => check_int P t c w a 9999 h⟩
instance : KeyE ekS .string := ⟨same_str, fun a => bits_str a 10000, fun P t c w a h => check_str P t c w a 9999 h⟩

section
variable {K V : Type} [DecidableEq K]
/-- What a map holds: its entries, the elder ones first. -/
def getL : List (K × V) → K → Option V
  | [], _ => none
  | p :: l, k => if p.1 = k then some p.2 else getL l k
def putL : List (K × V) → K → V → List (K × V)
  | [], k, v => [(k, v)]
  | p :: l, k, v => if p.1 = k then (k, v) :: l else p :: putL l k v
def findL : List (K × V) → K → Nat → Option (Nat × V)
  | [], _, _ => none
  | p :: l, k, n => if p.1 = k then some (n, p.2) else findL l k (n + 1)
theorem findL_get : ∀ (l : List (K × V)) (k : K) (n : Nat), (findL l k n).map (·.2) = getL l k
  | [], _, _ => rfl
  | p :: l, k, n => by
    rw [findL, getL]
    split
    · rfl
    · exact findL_get l k (n + 1)
theorem findL_ge : ∀ (l : List (K × V)) (k : K) (n i : Nat) (v : V), findL l k n = some (i, v) → n ≤ i ∧ i < n + l.length ∧ (putL l k = fun v => l.set (i - n) (k, v)) ∧ l[i - n]? = some (k, v)
  | [], _, _, _, _, h => by cases h
  | p :: l, k, n, i, v, h => by
    rw [findL] at h
    by_cases hp : p.1 = k
    · rw [if_pos hp] at h
      injection h with h
      injection h with h1 h2
      subst h1
      refine ⟨Nat.le_refl _, by simp, funext fun u => ?_, ?_⟩
      · rw [putL, if_pos hp, Nat.sub_self]; rfl
      · rw [Nat.sub_self, ← hp, ← h2]; rfl
    · rw [if_neg hp] at h
      obtain ⟨h1, h2, h3, h4⟩ := findL_ge l k (n + 1) i v h
      refine ⟨by omega, by simp only [List.length_cons]; omega, funext fun u => ?_, ?_⟩
      · rw [putL, if_neg hp, h3, show i - n = (i - (n + 1)) + 1 by omega]; rfl
      · rw [show i - n = (i - (n + 1)) + 1 by omega, List.getElem?_cons_succ]; exact h4
theorem findL_none : ∀ (l : List (K × V)) (k : K) (n : Nat), findL l k n = none → putL l k = fun v => l ++ [(k, v)]
  | [], _, _, _ => rfl
  | p :: l, k, n, h => by
    rw [findL] at h
    by_cases hp : p.1 = k
    · rw [if_pos hp] at h; cases h
    · rw [if_neg hp] at h
      have h3 := findL_none l k (n + 1) h
      refine funext fun u => ?_
      rw [putL, if_neg hp, h3]; rfl
theorem getL_put (l : List (K × V)) (k k' : K) (v : V) : getL (putL l k v) k' = if k = k' then some v else getL l k' := by
  induction l with
  | nil => simp [putL, getL]
  | cons p l ih =>
    rw [putL]
    by_cases hp : p.1 = k
    · rw [if_pos hp, getL, getL]
      simp only
      by_cases hk : k = k'
      · rw [if_pos hk, if_pos hk]
      · rw [if_neg hk, if_neg hk, if_neg (by rw [hp]; exact hk)]
    · rw [if_neg hp, getL, getL, ih]
      by_cases hk : k = k'
      · rw [if_pos hk, if_pos hk, if_neg (by rw [← hk]; exact hp)]
      · rw [if_neg hk, if_neg hk]

variable (ek : K → Value) (ev : V → Value)
def entOk (es : List MapEntry) (l : List (K × V)) : Prop := es.map (fun e => (e.key, e.val)) = l.map (fun p => (ek p.1, ev p.2))
variable {ek ev}
theorem findNow_eq {kd : TypeDesc} [hk : KeyE ek kd] : ∀ (es : List MapEntry) (l : List (K × V)) (k : K) (n : Nat), entOk ek ev es l → Instr.findNow kd (ek k) es n = some ((findL l k n).map fun p => (p.1, ev p.2))
  | [], [], _, _, _ => rfl
  | [], _ :: _, _, _, h => by simp [entOk] at h
  | _ :: _, [], _, _, h => by simp [entOk] at h
  | e :: es, p :: l, k, n, h => by
    simp only [entOk, List.map_cons, List.cons.injEq, Prod.mk.injEq] at h
    obtain ⟨⟨h1, h2⟩, h3⟩ := h
    rw [Instr.findNow, h1, hk.same, findL]
    by_cases hp : p.1 = k
    · rw [if_pos hp, decide_eq_true hp]
      simp only [Option.map_some, h2]
    · rw [if_neg hp, decide_eq_false hp]
      exact findNow_eq es l k (n + 1) h3

/-- A map of one's own. -/
def mp (ek : K → Value) (ev : V → Value) (b : Nat) (l : List (K × V)) : Fact where
  fp := fun i => i = b
  P := fun w => ∃ (es : Array MapEntry) (clock : Nat), w.heap[b]? = some (.map es clock) ∧ entOk ek ev es.toList l
  stab := fun h ⟨es, c, h1, h2⟩ => ⟨es, c, (h b rfl).trans h1, h2⟩

class HasMp (O : List Fact) (b : Nat) (ek : outParam (K → Value)) (ev : outParam (V → Value)) (l : outParam (List (K × V))) : Prop where
  mem : mp ek ev b l ∈ O
instance (priority := 900) HasMp.tail (f : Fact) (O : List Fact) (b : Nat) (ek : K → Value) (ev : V → Value) (l : List (K × V)) [h : HasMp O b ek ev l] : HasMp (f :: O) b ek ev l := ⟨List.mem_cons_of_mem _ h.mem⟩
instance (priority := 1000) HasMp.head (O : List Fact) (b : Nat) (ek : K → Value) (ev : V → Value) (l : List (K × V)) : HasMp (mp ek ev b l :: O) b ek ev l := ⟨List.mem_cons_self ..⟩
class UpdMp (O : List Fact) (b : Nat) (ek : outParam (K → Value)) (ev : outParam (V → Value)) (l : outParam (List (K × V))) (f' : Fact) (O' : outParam (List Fact)) : Prop where
  rep : Rep O (mp ek ev b l) f' O'
instance (priority := 900) UpdMp.tail (f : Fact) (O O' : List Fact) (b : Nat) (ek : K → Value) (ev : V → Value) (l : List (K × V)) (f' : Fact) [h : UpdMp O b ek ev l f' O'] : UpdMp (f :: O) b ek ev l f' (f :: O') := ⟨.tail _ _ _ _ _ h.rep⟩
instance (priority := 1000) UpdMp.head (O : List Fact) (b : Nat) (ek : K → Value) (ev : V → Value) (l : List (K × V)) (f' : Fact) : UpdMp (mp ek ev b l :: O) b ek ev l f' (f' :: O) := ⟨.head _ _ _⟩
end

section
variable {K V : Type} {C : Cx} {Q : Exit → Act → World → Prop} {L : Regs} {O S : List Fact} {ops : Array Oper} {rest : List Oper} {ty : TypeId} {pos : String} {aft : Array Edge} {d : Nat} {t : TypeId}
/-- A new map. -/
theorem oj_makeMap (ek : K → Value) (ev : V → Value) (hdN : Nat.blt d C.N = true) (k : ∀ b, OJ C ops Q rest ((d, .map (some b)) :: L) (mp ek ev b [] :: O) S) : OJ C ops Q (⟨some d, .makeMap t none, ty, pos, aft, none⟩ :: rest) L O S := by
  intro a w hr hp
  have hdN' : d < C.N := by simpa [Nat.blt_eq] using hdN
  unfold wpListIn
  rw [if_pos (by simp [Region.wanted])]
  refine ⟨fun _ _ => trivial, ?_⟩
  rw [Oper.semAt_eq _ _ _ (by intro c h; cases h)]
  have hrun : (execOp a.eval ⟨some d, .makeMap t none, ty, pos, aft, none⟩).run C.P w = .ok (.value (.map (some w.heap.size))) (w.alloc (.map #[] 0)) := by
    simp [execOp, Instr.makeMap]
  rw [hrun]
  show wpListIn _ _ _ _ _ _ _ _
  refine k w.heap.size _ _ (hr.put hdN' _) ?_
  refine hp.addO ((Below.refl _ _).alloc (Nat.le_refl _) _) _ ⟨#[], 0, heap_alloc_new w _, rfl⟩ (fun b hb => ?_)
  have hb' : b = w.heap.size := hb
  subst hb'
  simp

end

section
variable {K V : Type} [DecidableEq K] {ek : K → Value} {ev : V → Value} {kd : TypeDesc} {C : Cx} {Q : Exit → Act → World → Prop} {L : Regs} {O S : List Fact} {ops : Array Oper} {rest : List Oper} {ty : TypeId} {pos : String} {aft : Array Edge} {d : Nat} {dst : Option Tmp} {gu : Option (Nat × Bool)} {t kt et : TypeId} {x y z : Operand}

theorem run_getObj {P : Program} {w : World} {b : Nat} {es : Array MapEntry} {clock : Nat} (hb : w.heap[b]? = some (.map es clock)) : (getObj b).run P w = .ok (.map es clock) w := MapKept.run_getObj_map hb

theorem ent_put {es : Array MapEntry} {l : List (K × V)} {kk : K} {v : V} {i : Nat} {u : V} (he : entOk ek ev es.toList l) (hi : findL l kk 0 = some (i, u)) :
    (((es[i]?).map (·.key)).getD (ek kk) = ek kk) ∧ entOk ek ev (es.modify i fun e => { e with key := ek kk, val := ev v }).toList (putL l kk v) := by
  obtain ⟨h1, h2, h3, h4⟩ := findL_ge l kk 0 i u hi
  rw [Nat.sub_zero] at h4
  have hlen : es.toList.length = l.length := by have := congrArg List.length he; simpa [entOk] using this
  have hi' : i < es.toList.length := by omega
  have hget : es.toList[i]? = some es.toList[i] := List.getElem?_eq_getElem hi'
  have hkey : es.toList[i].key = ek kk := by
    have h5 := congrArg (fun l => l[i]?) he
    simp only [List.getElem?_map, hget, h4, Option.map_some, Option.some.injEq, Prod.mk.injEq] at h5
    exact h5.1
  refine ⟨?_, ?_⟩
  · rw [← Array.getElem?_toList, hget]; exact hkey
  · unfold entOk at he ⊢
    rw [h3, Array.toList_modify, ChangeMaps.modify_eq_set _ _ _ _ hget, List.map_set, he, List.map_set, Nat.sub_zero]

end
end Go.Sx
namespace Go.Sx
open Go.RowKit
class HasMpS {K V : Type} (S : List Fact) (b : Nat) (ek : outParam (K → Value)) (ev : outParam (V → Value)) (l : outParam (List (K × V))) : Prop where
  mem : mp ek ev b l ∈ S
section
variable {K V : Type}
instance (priority := 900) HasMpS.tail (f : Fact) (S : List Fact) (b : Nat) (ek : K → Value) (ev : V → Value) (l : List (K × V)) [h : HasMpS S b ek ev l] : HasMpS (f :: S) b ek ev l := ⟨List.mem_cons_of_mem _ h.mem⟩
instance (priority := 1000) HasMpS.head (S : List Fact) (b : Nat) (ek : K → Value) (ev : V → Value) (l : List (K × V)) : HasMpS (mp ek ev b l :: S) b ek ev l := ⟨List.mem_cons_self ..⟩
end
section
variable {K V : Type} [DecidableEq K] {ek : K → Value} {ev : V → Value} {kd : TypeDesc} {C : Cx} {Q : Exit → Act → World → Prop} {L : Regs} {O S : List Fact} {ops : Array Oper} {rest : List Oper} {ty : TypeId} {pos : String} {aft : Array Edge} {dst : Option Tmp} {gu : Option (Nat × Bool)} {t kt et : TypeId} {x y : Operand}
end
section
variable {C : Cx} {Q : Exit → Act → World → Prop} {L : Regs} {O S : List Fact} {ops : Array Oper} {rest : List Oper}
theorem grow_trans {a b c : World} (h : Grow a b) (k : Grow b c) : Grow a c :=
  ⟨k.os.trans h.os, k.tape.trans h.tape, k.output.trans h.output, Nat.le_trans h.size k.size, fun i hi => (k.block i (Nat.lt_of_lt_of_le hi h.size)).trans (h.block i hi)⟩
/-- A block of one's own. -/
theorem Hp.bo {F : Nat → Prop} {w0 w : World} (hp : Hp F w0 O S w) {b : Nat} {ob : Obj} [h : HasB O b ob] : w.heap[b]? = some ob := (hp.own _ h.mem).1
/-- What was known of old blocks at entry is known still. -/
theorem Hp.old {F : Nat → Prop} {w0 w : World} (hp : Hp F w0 O S w) (hF : ∀ b, b < w0.heap.size → F b) (f : Fact) (h : f.P w0) (hb : ∀ b, f.fp b → b < w0.heap.size) : Hp F w0 O (f :: S) w :=
  hp.addS f (f.stab (fun b hf => (hp.fr b (hF b (hb b hf))).2) h) (fun b hf => Nat.lt_of_lt_of_le (hb b hf) hp.size) (fun g hg b hf hg' => ((hp.own g hg).2 b hg').2 (hF b (hb b hf)))
theorem cj_rd {cd : Code} {α : Type} {sz : Nat} {enc : α → List Value} {A : Option Addr} {xs : List α} (h : Rd C.w0 sz enc A xs) (hF : ∀ b, b < C.w0.heap.size → C.F b) (k : CJ C cd Q L O (sl (fun b => b < C.w0.heap.size) sz enc A xs :: S)) : CJ C cd Q L O S :=
  fun a w hr hp => k a w hr (hp.old hF _ h (fun _ hb => hb))
end
end Go.Sx
namespace Go.Sx
open Go.RowKit
section
variable {C : Cx} {Q : Exit → Act → World → Prop} {L : Regs} {O O' S : List Fact} {ops : Array Oper} {rest : List Oper} {ty : TypeId} {pos : String} {aft : Array Edge} {dst : Option Tmp} {gu : Option (Nat × Bool)} {x y : Operand} {d : Nat}
theorem setC_one (k : Nat) (v : Value) (cs : List Value) (hk : k < cs.length) : SetC k [v] cs (cs.set k v) := ⟨fun j => by
  rw [List.getElem?_set]
  by_cases h : k = j
  · subst h; simp [hk]
  · rw [if_neg h, if_neg (by simp; omega)], by simp, by simp; omega⟩
theorem oj_storeK {t b k e : Nat} {v : Value} {cs : List Value} (hx : val L x = some (.pointer (some ⟨b, k, none⟩))) (hy : val L y = some v) (hc : v.cells = #[v]) (hone : v.oneCell' = true) (hs : ∀ w, (sizeOf t).run C.P w = .ok 1 w)
    [hb : HasB O b (cellsB e cs)] (hk : k < cs.length) [hu : UpdB O b (cellsB e cs) (cellsB e (cs.set k v)) O'] (k' : OJ C ops Q rest L O' S) : OJ C ops Q (⟨none, .store t x y, ty, pos, aft, none⟩ :: rest) L O S :=
  letI := setC_one k v cs hk
  oj_store (vs := [v]) (n := 1) hx hy (by simpa using hc) (by simp [hone]) hs rfl k'
theorem made_one (z : Value) (n : Nat) : madeCells #[z] n = (List.replicate n z).toArray := by
  refine Array.ext (by simp [size_madeCells]) fun i h1 h2 => ?_
  simp [madeCells, Nat.mod_one]
theorem oj_makeSlice1 {t e n : Nat} {i : TypeInfo} {z : Value} (ht : C.P.underlying t = some (.slice e)) (hi : C.P.info? e = some i) (hz : i.zero = some z) (hsz : i.size = 1) (hzc : z.cells = #[z]) (hx : val L x = some (.int .i64 (n : Nat))) (hy : val L y = some (.int .i64 (n : Nat)))
    (hb : i.bytes * n ≤ 281474976710656) (h63 : n ≤ 9223372036854775807) (hdN : Nat.blt d C.N = true) (k : ∀ b, OJ C ops Q rest ((d, .slice (some ⟨b, 0, none⟩) n n) :: L) (ownB b (cellsB e (List.replicate n z)) :: O) S) :
    OJ C ops Q (⟨some d, .makeSlice t x y, ty, pos, aft, none⟩ :: rest) L O S :=
  oj_new (by intro c h; cases h) rfl rfl hdN (cellsB e (List.replicate n z)) (fun b => .slice (some ⟨b, 0, none⟩) n n) (fun a w hr _ => by
    have hb2 : (i.bytes : Int) * (n : Int) ≤ 281474976710656 := by
      have h0 : ((i.bytes * n : Nat) : Int) ≤ 281474976710656 := by omega
      rwa [Int.natCast_mul] at h0
    have h := run_make (P := C.P) w t e i z ht hi hz .i64 .i64 n n (by omega) (Int.le_refl _) hb2 (by omega)
    simp only [Int.toNat_natCast, hsz, Nat.mul_one, hzc, made_one] at h
    simp only [execOp, hr.val hx, hr.val hy, Sem.run_bind, h, Result.andThen_ok]
    rfl) k
end
end Go.Sx
namespace Go.Sx
open Go.RowKit
section
variable {C : Cx} {L : Regs} {O S : List Fact} {dst : Option Tmp} {ty : TypeId} {pos : String} {aft : Array Edge} {gu : Option (Nat × Bool)}
variable {t t' : TypeId} {x y : Operand}
theorem y_shr {m : Nat} {n : Nat} (hx : val L x = some (.int .i64 (m : Nat))) (hy : val L y = some (.int .i64 (n : Nat))) (hn : n ≤ 64) : Yi C ⟨dst, .binOp .shr t x y t', ty, pos, aft, gu⟩ L O S (.int .i64 ((m / 2 ^ n : Nat) : Int)) :=
  yi_val (by intro c h; cases h) fun a w hr _ => by
    have h2 : ¬ ((n : Int) < 0) := by omega
    have h1 : min n (IntKind.i64.bits) = n := Nat.min_eq_left hn
    have h3 : (m : Int).fdiv (2 ^ n) = ((m / 2 ^ n : Nat) : Int) := by
      rw [Int.fdiv_eq_ediv_of_nonneg _ (by have : (0 : Int) < 2 ^ n := Int.pow_pos (by decide); omega)]
      rw [show ((2 : Int) ^ n) = ((2 ^ n : Nat) : Int) by simp]
      exact (Int.natCast_ediv m (2 ^ n)).symm
    simp [execOp, hr.val hx, hr.val hy, eqGuard, binOp]
theorem y_shl {m : Nat} {n : Nat} (hx : val L x = some (.int .i64 (m : Nat))) (hy : val L y = some (.int .i64 (n : Nat))) (hn : n ≤ 64) (hm : m * 2 ^ n ≤ 9223372036854775807) : Yi C ⟨dst, .binOp .shl t x y t', ty, pos, aft, gu⟩ L O S (.int .i64 ((m * 2 ^ n : Nat) : Int)) :=
  yi_val (by intro c h; cases h) fun a w hr _ => by
    have h2 : ¬ ((n : Int) < 0) := by omega
    have h1 : min n (IntKind.i64.bits) = n := Nat.min_eq_left hn
    have h3 : IntKind.i64.wrap ((m : Int) * 2 ^ n) = ((m * 2 ^ n : Nat) : Int) := by
      rw [show ((m : Int) * 2 ^ n) = ((m * 2 ^ n : Nat) : Int) by simp]
      exact IntWalk.i64_in _ (by omega)
    simp only [execOp, hr.val hx, hr.val hy, eqGuard, binOp, Op.shift]
    simp [h2, h1, h3]
theorem y_shl1 {n : Nat} (hx : val L x = some (.int .i64 1)) (hy : val L y = some (.int .i64 (n : Nat))) (hn : n ≤ 62) : Yi C ⟨dst, .binOp .shl t x y t', ty, pos, aft, gu⟩ L O S (.int .i64 ((2 ^ n : Nat) : Int)) := by
  have hp : 2 ^ n ≤ 2 ^ 62 := Nat.pow_le_pow_right (by decide) hn
  have := y_shl (C := C) (O := O) (S := S) (dst := dst) (t := t) (t' := t') (ty := ty) (pos := pos) (aft := aft) (gu := gu) (m := 1) (n := n) hx hy (by omega) (by omega)
  rwa [Nat.one_mul] at this
theorem and_one (m : Nat) (hm : m ≤ 9223372036854775807) : IntKind.i64.wrap ((BitVec.ofInt 64 (m : Int) &&& BitVec.ofInt 64 1).toNat : Int) = ((m % 2 : Nat) : Int) := by
  have h : (BitVec.ofInt 64 (m : Int) &&& BitVec.ofInt 64 1).toNat = m % 2 := by
    rw [BitVec.toNat_and]
    have h1 : (BitVec.ofInt 64 (m : Int)).toNat = m := by
      rw [BitVec.toNat_ofInt]; omega
    have h2 : (BitVec.ofInt 64 1).toNat = 1 := by decide
    rw [h1, h2, Nat.and_one_is_mod]
  rw [h]; exact IntWalk.i64_in _ (by omega)
theorem y_and1 {m : Nat} (hx : val L x = some (.int .i64 (m : Nat))) (hy : val L y = some (.int .i64 1)) (hm : m ≤ 9223372036854775807) : Yi C ⟨dst, .binOp .and t x y t', ty, pos, aft, gu⟩ L O S (.int .i64 ((m % 2 : Nat) : Int)) :=
  yi_val (by intro c h; cases h) fun a w hr _ => by
    have e : binOp .and t (.int .i64 (m : Int)) (.int .i64 1) = pure (.int .i64 ((m % 2 : Nat) : Int)) := by
      unfold binOp
      simp only [ne_eq, not_true_eq_false, if_false]
      exact congrArg (fun z => (pure (Value.int .i64 z) : Sem Value)) (and_one m hm)
    simp [execOp, hr.val hx, hr.val hy, eqGuard, e]
end
end Go.Sx
namespace Go.Sx
open Go.RowKit

theorem flatMap_set {α : Type} (enc : α → List Value) (sz : Nat) (he : ∀ x, (enc x).length = sz) (xs : List α) (i : Nat) (u : α) (hi : i < xs.length) (j : Nat) :
    ((xs.set i u).flatMap enc)[j]? = if i * sz ≤ j ∧ j < i * sz + sz then (enc u)[j - i * sz]? else (xs.flatMap enc)[j]? := by
  by_cases hz : sz = 0
  · subst hz
    have h1 : ∀ l : List α, l.flatMap enc = [] := fun l => by
      rw [List.flatMap_eq_nil_iff]; intro x _; exact List.eq_nil_of_length_eq_zero (he x)
    rw [h1, h1, if_neg (by omega)]
  · by_cases hj : j < xs.length * sz
    · have hq : j / sz < xs.length := (Nat.div_lt_iff_lt_mul (Nat.pos_of_ne_zero hz)).2 hj
      have hr : j % sz < sz := Nat.mod_lt _ (Nat.pos_of_ne_zero hz)
      have hd : (j / sz) * sz + j % sz = j := by rw [Nat.mul_comm]; exact Nat.div_add_mod j sz
      have hx : xs[j / sz]? = some xs[j / sz] := List.getElem?_eq_getElem hq
      have e2 := flatMap_get enc sz he xs (j / sz) _ (j % sz) hx hr
      rw [hd] at e2
      by_cases hqi : i = j / sz
      · have hx2 : (xs.set i u)[j / sz]? = some u := by rw [List.getElem?_set, if_pos hqi, if_pos (by omega)]
        have e1 := flatMap_get enc sz he (xs.set i u) (j / sz) _ (j % sz) hx2 hr
        rw [hd] at e1
        rw [e1, if_pos (by rw [hqi]; omega), show j - i * sz = j % sz by rw [hqi]; omega]
      · have hx2 : (xs.set i u)[j / sz]? = some xs[j / sz] := by rw [List.getElem?_set, if_neg hqi, hx]
        have e1 := flatMap_get enc sz he (xs.set i u) (j / sz) _ (j % sz) hx2 hr
        rw [hd] at e1
        rw [e1, ← e2, if_neg ?_]
        rintro ⟨h1, h2⟩
        apply hqi
        have h3 : i ≤ j / sz := (Nat.le_div_iff_mul_le (Nat.pos_of_ne_zero hz)).2 h1
        have h4 : j / sz < i + 1 := (Nat.div_lt_iff_lt_mul (Nat.pos_of_ne_zero hz)).2 (by rw [Nat.succ_mul]; omega)
        omega
    · have l1 := flatMap_len enc sz he (xs.set i u)
      have l2 := flatMap_len enc sz he xs
      rw [List.length_set] at l1
      have h5 : i * sz + sz ≤ xs.length * sz := by
        have h6 := Nat.mul_le_mul_right sz (Nat.succ_le_of_lt hi)
        rwa [Nat.succ_mul] at h6
      have h7 : ¬ (i * sz ≤ j ∧ j < i * sz + sz) := by omega
      have e1 : ((xs.set i u).flatMap enc)[j]? = none := List.getElem?_eq_none (by omega)
      have e2 : (xs.flatMap enc)[j]? = none := List.getElem?_eq_none (by omega)
      rw [e1, if_neg h7, e2]

section
variable {C : Cx} {Q : Exit → Act → World → Prop} {L : Regs} {O S : List Fact} {ops : Array Oper} {rest : List Oper} {ty : TypeId} {pos : String} {aft : Array Edge}
/-- A whole element is stored into a slice of one's own. -/
theorem oj_storeE {α : Type} {t e sz c i : Nat} {enc : α → List Value} {A : Option Addr} {xs : List α} {u : α} {x y : Operand} {v : Value} {O' : List Fact} (hx : val L x = some (.pointer (some (at_ A (i * sz))))) (hy : val L y = some v) (hc : v.cells = (enc u).toArray) (hone : ((enc u).all fun v => v.oneCell') = true)
    (hs : ∀ w, (sizeOf t).run C.P w = .ok sz w) (he : ∀ x, (enc x).length = sz) (hi : i < xs.length) [hu : UpdOw O A e sz enc c xs (ow e sz enc A c (xs.set i u)) O'] (k' : OJ C ops Q rest L O' S) : OJ C ops Q (⟨none, .store t x y, ty, pos, aft, none⟩ :: rest) L O S := by
  intro a w hr hp
  unfold wpListIn
  rw [if_pos (by simp [Region.wanted])]
  refine ⟨fun _ _ => trivial, ?_⟩
  rw [Oper.semAt_eq _ _ _ (by intro c h; cases h)]
  have hP : w.ownsRow 0 e sz (.slice A xs.length c) xs.length (xs.flatMap enc) := (hp.own _ hu.rep.mem).1
  rcases hP.2 with ⟨_, h3⟩ | ⟨g, cap, cur, hv, h3, h4, h5, h6, h7, h8⟩
  · omega
  · injection hv with hA _ hcap
    subst hA
    subst hcap
    have hcur : w.heap[g]? = some (.cells cur.toList.toArray e (0, 0)) := by rw [h4]
    have hisz : i * sz + sz ≤ xs.length * sz := by
      have h6 := Nat.mul_le_mul_right sz (Nat.succ_le_of_lt hi)
      rwa [Nat.succ_mul] at h6
    have hcs : xs.length * sz ≤ c * sz := Nat.mul_le_mul_right sz h5
    obtain ⟨w', cs2, g1, g2, g3, g4, g5, g6, g7, g8, g9⟩ := run_storeCells C.P (enc u) w g (i * sz) 0 e cur.toList hcur hone (by rw [he]; simp only [Array.length_toList]; omega)
    have hat : at_ (some ⟨g, 0, none⟩) (i * sz) = ⟨g, i * sz, none⟩ := by rw [at_some, addr_add]; simp
    rw [hat] at hx
    have hrun : (execOp a.eval ⟨none, .store t x y, ty, pos, aft, none⟩).run C.P w = .ok .skip w' := by
      simp [execOp, hr.val hx, hr.val hy, Instr.storeAt, Instr.sureAddr, storeVar, hc, hs, he, g1]
    rw [hrun]
    show wpListIn _ _ _ _ _ _ _ _
    refine k' _ w' hr ?_
    have hnew : w'.ownsRow 0 e sz (.slice (some ⟨g, 0, none⟩) (xs.set i u).length c) (xs.set i u).length ((xs.set i u).flatMap enc) := by
      have hl2 := flatMap_len enc sz he (xs.set i u)
      rw [List.length_set] at hl2 ⊢
      refine ⟨hl2, .inr ⟨g, c, cs2.toArray, rfl, h3, g2, h5, h6, by simp only [List.size_toArray]; rw [g4]; simpa using h7, ?_⟩⟩
      refine List.ext_getElem? fun j => ?_
      rw [flatMap_set enc sz he xs i u hi j, ← h8]
      rw [List.getElem?_take, List.getElem?_take]
      show (if j < xs.length * sz then cs2[j]? else none) = _
      rw [g3 j, he]
      simp only [Nat.add_zero]
      by_cases hj : j < xs.length * sz
      · rw [if_pos hj, if_pos hj]
      · rw [if_neg hj, if_neg hj, if_neg (by omega)]
    refine hp.write hu.rep g6 g7 g8 (by omega) (fun c1 _ hc1 => g5 c1 (fun e => hc1 (by rw [e]; rfl))) hnew (fun c1 hc1 => ⟨?_, .inl hc1⟩)
    have h9 : some g = some c1 := hc1
    injection h9 with h9
    rw [g9, ← h9]
    exact (Array.getElem?_eq_some_iff.1 h4).1

/-- A shared fact that follows from what is known. -/
theorem cj_addS {cd : Code} (f : Fact) (h : ∀ w, Hp C.F C.w0 O S w → f.P w ∧ ∀ b, f.fp b → b < w.heap.size ∧ ∀ g ∈ O, ¬ g.fp b) (k : CJ C cd Q L O (f :: S)) : CJ C cd Q L O S :=
  fun a w hr hp => k a w hr (hp.addS f (h w hp).1 (fun b hb => ((h w hp).2 b hb).1) (fun g hg b hb => ((h w hp).2 b hb).2 g hg))
end

end Go.Sx
namespace Go.Proofs.YtppfniekcgnmjaaGreat.Pl
open Go.Sx Go.RowKit

theorem not_t {b : Bool} (h : (!b) = true) : b = false := by cases b <;> simp_all
theorem not_f {b : Bool} (h : (!b) = false) : b = true := by cases b <;> simp_all
/-- the first index of a number, or -1 -/
def seek : List Int → Int → Int → Int
  | [], _, _ => -1
  | x :: l, n, i => if x = n then i else seek l n (i + 1)
theorem seek_drop (l : List Int) (n : Int) (k : Nat) (x : Int) (h : l[k]? = some x) : seek (l.drop k) n k = if x = n then (k : Int) else seek (l.drop (k + 1)) n ((k + 1 : Nat) : Int) := by
  obtain ⟨h1, h2⟩ := List.getElem?_eq_some_iff.1 h
  rw [List.drop_eq_getElem_cons h1, h2, seek]; rfl
def btw (lo n hi : Int) : Bool := decide (lo ≤ n) && decide (n ≤ hi)
theorem all_drop {α : Type} (p : α → Bool) (l : List α) (k : Nat) (x : α) (h : l[k]? = some x) : (l.drop k).all p = (p x && (l.drop (k + 1)).all p) := by
  obtain ⟨h1, h2⟩ := List.getElem?_eq_some_iff.1 h
  rw [List.drop_eq_getElem_cons h1, h2, List.all_cons]
end Go.Proofs.YtppfniekcgnmjaaGreat.Pl
namespace Go.Proofs.YtppfniekcgnmjaaGreat.Pl
open Go.Sx Go.RowKit

structure Meas where
  tol : Int
  lab : Int
  deriving Inhabited, DecidableEq
abbrev encMe (m : Meas) : List Value := [.int .i64 m.tol, .int .i64 m.lab]
abbrev evMe (m : Meas) : Value := .agg #[.int .i64 m.tol, .int .i64 m.lab]
structure Span where
  lo : Int
  hi : Int
  deriving Inhabited, DecidableEq
abbrev encSp (s : Span) : List Value := [.int .i64 s.lo, .int .i64 s.hi]
abbrev evSp (s : Span) : Value := .agg #[.int .i64 s.lo, .int .i64 s.hi]
/-- a list of numbers, and where it lies -/
structure ListV where
  A : Option Addr
  c : Nat
  l : List Int
instance : Inhabited ListV := ⟨⟨none, 0, []⟩⟩
abbrev encLs (x : ListV) : List Value := [.slice x.A x.l.length x.c]
abbrev GoodL (w : World) (x : ListV) : Prop := Rd w 1 enInt x.A x.l
/-- a fake, and where it lies -/
structure FakeV where
  A : Option Addr
  c : Nat
  has : List Span
instance : Inhabited FakeV := ⟨⟨none, 0, []⟩⟩
abbrev encFk (x : FakeV) : List Value := [.slice x.A x.has.length x.c]
abbrev evFk (x : FakeV) : Value := .agg #[.slice x.A x.has.length x.c]
abbrev GoodK (w : World) (x : FakeV) : Prop := Rd w 2 encSp x.A x.has

/-! ### Checks -/
def meas1 (m : Meas) : Bool := btw 0 m.tol 1000 && btw 1 m.lab 1000
def measOk (ms : List Meas) : Bool := btw 1 ms.length 8 && ms.all meas1
def measE (ms : List Meas) : Int := if measOk ms then 0 else 12
def rd1 (n : Int) : Bool := btw (-1) n 100000
def rdOk (k : Nat) (l : List Int) : Bool := ((l.length : Int) == (k : Int)) && l.all rd1
def rdOkV (k : Nat) (x : ListV) : Bool := rdOk k x.l
def rdsE (k : Nat) (ls : List ListV) : Int := if ls.all (rdOkV k) then 0 else 13
/-- where the first number is that is no reading; -1: nowhere -/
def firstBad : List Int → Nat → Int
  | [], _ => -1
  | x :: l, n => if rd1 x = false then n else firstBad l (n + 1)
theorem firstBad_drop (l : List Int) (k : Nat) (x : Int) (h : l[k]? = some x) : firstBad (l.drop k) k = if rd1 x = false then (k : Int) else firstBad (l.drop (k + 1)) (k + 1) := by
  obtain ⟨h1, h2⟩ := List.getElem?_eq_some_iff.1 h
  rw [List.drop_eq_getElem_cons h1, h2, firstBad]
theorem firstBad_all (l : List Int) (n : Nat) : decide (0 ≤ firstBad l n) = !(l.all rd1) := by
  induction l generalizing n with
  | nil => rfl
  | cons q l ih =>
    rw [firstBad, List.all_cons]
    cases h : rd1 q with
    | false => rw [if_pos rfl]; exact decide_eq_true (by omega)
    | true => rw [if_neg (by simp), ih, Bool.true_and]
def badSp (s : Span) : Bool := (decide (s.lo < 0) || decide (s.hi < s.lo)) || decide (100000 < s.hi)
def goodSp (s : Span) : Bool := !(badSp s)
def fake1 (k : Nat) (f : FakeV) : Bool := ((f.has.length : Int) == (k : Int)) && f.has.all goodSp
def fakesOk (k : Nat) (fs : List FakeV) : Bool := decide ((fs.length : Int) ≤ 10) && fs.all (fake1 k)
def skillE (ms : List Meas) (tk : List Int) (fs : List FakeV) : Int :=
  if measOk ms then (if rdOk ms.length tk then (if fakesOk ms.length fs then 0 else 14) else 13) else 12

/-! ### What is narrowed, what agrees -/
def disag (m : Meas) (a b : Int) : Bool := (decide (0 ≤ a) && decide (0 ≤ b)) && !(btw (-2 * m.tol) (b - a) (2 * m.tol))
def agrF : List Meas → List Int → List Int → Bool
  | m :: ms, a :: us, b :: bs => !(disag m a b) && agrF ms us bs
  | _, _, _ => true
theorem agrF_drop (ms : List Meas) (us bs : List Int) (k : Nat) (m : Meas) (a b : Int) (h : ms[k]? = some m) (ha : us[k]? = some a) (hb : bs[k]? = some b) :
    agrF (ms.drop k) (us.drop k) (bs.drop k) = (!(disag m a b) && agrF (ms.drop (k + 1)) (us.drop (k + 1)) (bs.drop (k + 1))) := by
  obtain ⟨h1, h2⟩ := List.getElem?_eq_some_iff.1 h
  obtain ⟨h3, h4⟩ := List.getElem?_eq_some_iff.1 ha
  obtain ⟨h5, h6⟩ := List.getElem?_eq_some_iff.1 hb
  rw [List.drop_eq_getElem_cons h1, h2, List.drop_eq_getElem_cons h3, h4, List.drop_eq_getElem_cons h5, h6, agrF]
def AgrE (ms : List Meas) (a b : List Int) : Int := if measOk ms then (if rdOk ms.length a && rdOk ms.length b then 0 else 13) else 12
def AgrB (ms : List Meas) (a b : List Int) : Bool := (AgrE ms a b == 0) && agrF ms a b

/-! ### Fakes -/
def fnd (m : Meas) (r : Int) (s : Span) : Bool := decide (0 ≤ r) && (decide (r + 3 * m.tol < s.lo) || decide (s.hi < r - 3 * m.tol))
/-- the numbers of the measures that find a fake, from number k on -/
def fndF : List Meas → List Int → List Span → Nat → List Int
  | m :: ms, r :: rs, s :: ss, k => if fnd m r s then (k : Int) :: fndF ms rs ss (k + 1) else fndF ms rs ss (k + 1)
  | _, _, _, _ => []
@[simp] theorem fndF_nil (rs : List Int) (ss : List Span) (k : Nat) : fndF [] rs ss k = [] := by simp [fndF]
theorem fndF_drop (ms : List Meas) (rs : List Int) (ss : List Span) (k : Nat) (m : Meas) (r : Int) (s : Span) (h : ms[k]? = some m) (hr : rs[k]? = some r) (hs : ss[k]? = some s) :
    fndF (ms.drop k) (rs.drop k) (ss.drop k) k = if fnd m r s then (k : Int) :: fndF (ms.drop (k + 1)) (rs.drop (k + 1)) (ss.drop (k + 1)) (k + 1) else fndF (ms.drop (k + 1)) (rs.drop (k + 1)) (ss.drop (k + 1)) (k + 1) := by
  obtain ⟨h1, h2⟩ := List.getElem?_eq_some_iff.1 h
  obtain ⟨h3, h4⟩ := List.getElem?_eq_some_iff.1 hr
  obtain ⟨h5, h6⟩ := List.getElem?_eq_some_iff.1 hs
  rw [List.drop_eq_getElem_cons h1, h2, List.drop_eq_getElem_cons h3, h4, List.drop_eq_getElem_cons h5, h6, fndF]
def foundL (ms : List Meas) (tk : List Int) (f : FakeV) : List Int := fndF ms tk f.has 0
theorem fndF_len : ∀ (ms : List Meas) (rs : List Int) (ss : List Span) (k : Nat), (fndF ms rs ss k).length ≤ ms.length
  | [], _, _, _ => by simp [fndF]
  | _ :: _, [], _, _ => by simp [fndF]
  | _ :: _, _ :: _, [], _ => by simp [fndF]
  | m :: ms, r :: rs, s :: ss, k => by
    have := fndF_len ms rs ss (k + 1)
    rw [fndF]; split
    · simp only [List.length_cons]; omega
    · simp only [List.length_cons]; omega
def FndE (ms : List Meas) (tk : List Int) (f : FakeV) : Int := skillE ms tk [f]
def FndL (ms : List Meas) (tk : List Int) (f : FakeV) : List Int := if FndE ms tk f = 0 then foundL ms tk f else []
def hasI (l : List Int) (n : Int) : Bool := l.any (fun q => decide (q = n))
theorem seekI (l : List Int) (n : Int) (i : Nat) : decide (0 ≤ seek l n i) = hasI l n := by
  induction l generalizing i with
  | nil => rfl
  | cons q l ih =>
    rw [seek]
    show _ = (decide (q = n) || hasI l n)
    by_cases h : q = n
    · rw [if_pos h, decide_eq_true h, Bool.true_or]; exact decide_eq_true (by omega)
    · rw [if_neg h, decide_eq_false h, Bool.false_or]
      exact ih (i + 1)
def shw1 (set : List Int) (l : List Int) : Bool := l.any (hasI set)
theorem any_drop {α : Type} (p : α → Bool) (l : List α) (k : Nat) (x : α) (h : l[k]? = some x) : (l.drop k).any p = (p x || (l.drop (k + 1)).any p) := by
  obtain ⟨h1, h2⟩ := List.getElem?_eq_some_iff.1 h
  rw [List.drop_eq_getElem_cons h1, h2, List.any_cons]
def shwF (ms : List Meas) (tk : List Int) (set : List Int) (f : FakeV) : Bool := shw1 set (foundL ms tk f)
def shwB (ms : List Meas) (tk : List Int) (fs : List FakeV) (set : List Int) : Bool := fs.all (shwF ms tk set)
/-- the set's numbers are such of measures, each greater than the one before it -/
def setF (n : Int) : List Int → Int → Bool
  | [], _ => true
  | i :: l, p => (btw 0 i (n - 1) && decide (p < i)) && setF n l i
def setOk (n : Int) (set : List Int) : Bool := setF n set (-1)
/-! ### What the checks say -/
theorem meas1_V (m : Meas) : ((!(decide (0 ≤ m.tol) && decide (m.tol ≤ 1000))) || !(decide (1 ≤ m.lab) && decide (m.lab ≤ 1000))) = !(meas1 m) := by
  unfold meas1 btw
  cases decide (0 ≤ m.tol) <;> cases decide (m.tol ≤ 1000) <;> cases decide (1 ≤ m.lab) <;> cases decide (m.lab ≤ 1000) <;> rfl
theorem rd_V (a b : Int) (c : Bool) : ((a != b) || !c) = !((a == b) && c) := by rw [Bool.not_and]; rfl
theorem meas_bd {ms : List Meas} (h : measOk ms = true) : (1 ≤ ms.length ∧ ms.length ≤ 8) ∧ ∀ m ∈ ms, (0 ≤ m.tol ∧ m.tol ≤ 1000) ∧ (1 ≤ m.lab ∧ m.lab ≤ 1000) := by
  simp only [measOk, btw, Bool.and_eq_true, decide_eq_true_eq, List.all_eq_true, meas1] at h
  exact ⟨by omega, fun m hm => h.2 m hm⟩
theorem rdOk_bd {k : Nat} {l : List Int} (h : rdOk k l = true) : l.length = k ∧ ∀ x ∈ l, -1 ≤ x ∧ x ≤ 100000 := by
  simp only [rdOk, rd1, btw, Bool.and_eq_true, decide_eq_true_eq, List.all_eq_true, beq_iff_eq] at h
  exact ⟨by omega, h.2⟩
theorem fakes_bd {k : Nat} {fs : List FakeV} (h : fakesOk k fs = true) : fs.length ≤ 10 ∧ ∀ f ∈ fs, f.has.length = k ∧ ∀ s ∈ f.has, 0 ≤ s.lo ∧ s.lo ≤ s.hi ∧ s.hi ≤ 100000 := by
  simp only [fakesOk, fake1, Bool.and_eq_true, decide_eq_true_eq, List.all_eq_true, beq_iff_eq] at h
  refine ⟨by omega, fun f hf => ⟨by have := (h.2 f hf).1; omega, fun s hs => ?_⟩⟩
  have := (h.2 f hf).2 s hs
  simp only [goodSp, badSp, Bool.not_eq_true', Bool.or_eq_false_iff, decide_eq_false_iff_not] at this
  omega
theorem skill_0 {ms : List Meas} {tk : List Int} {fs : List FakeV} (h : (skillE ms tk fs != 0) = false) : measOk ms = true ∧ rdOk ms.length tk = true ∧ fakesOk ms.length fs = true ∧ skillE ms tk fs = 0 := by
  have h0 : skillE ms tk fs = 0 := by simpa using h
  have h1 := h0
  unfold skillE at h1
  split at h1
  · split at h1
    · split at h1
      · exact ⟨by assumption, by assumption, by assumption, h0⟩
      · cases h1
    · cases h1
  · cases h1
theorem skill_no {ms : List Meas} {tk : List Int} {fs : List FakeV} (h : (skillE ms tk fs != 0) = true) : ¬ skillE ms tk fs = 0 := by simpa using h
theorem meas_0 {ms : List Meas} (h : (measE ms != 0) = false) : measOk ms = true := by
  unfold measE at h; cases hm : measOk ms with
  | true => rfl
  | false => rw [hm] at h; cases h
theorem meas_no {ms : List Meas} (h : (measE ms != 0) = true) : measOk ms = false := by
  unfold measE at h; cases hm : measOk ms with
  | false => rfl
  | true => rw [hm] at h; cases h
theorem rds_0 {k : Nat} {ls : List ListV} (h : (rdsE k ls != 0) = false) : ls.all (rdOkV k) = true := by
  unfold rdsE at h; cases hm : ls.all (rdOkV k) with
  | true => rfl
  | false => rw [hm] at h; cases h
theorem rds_no {k : Nat} {ls : List ListV} (h : (rdsE k ls != 0) = true) : ls.all (rdOkV k) = false := by
  unfold rdsE at h; cases hm : ls.all (rdOkV k) with
  | false => rfl
  | true => rw [hm] at h; cases h
theorem setF_len (n : Int) : ∀ (set : List Int) (p : Int), setF n set p = true → (set.length : Int) + p ≤ n - 1 ∨ set = []
  | [], _, _ => .inr rfl
  | i :: l, p, h => by
    simp only [setF, btw, Bool.and_eq_true, decide_eq_true_eq] at h
    left
    rcases setF_len n l i h.2 with h1 | h1
    · simp only [List.length_cons]; omega
    · subst h1; simp only [List.length_cons, List.length_nil]; omega
theorem setF_rng (n : Int) : ∀ (set : List Int) (p : Int), setF n set p = true → ∀ i ∈ set, 0 ≤ i ∧ i ≤ n - 1
  | [], _, _ => by simp
  | i :: l, p, h => by
    simp only [setF, btw, Bool.and_eq_true, decide_eq_true_eq] at h
    intro j hj
    rcases List.mem_cons.1 hj with rfl | hj
    · exact h.1.1
    · exact setF_rng n l i h.2 j hj
theorem agr_no1 {ms : List Meas} {a b : List Int} (h : measOk ms = false) : AgrE ms a b = 12 ∧ AgrB ms a b = false := by
  have e : AgrE ms a b = 12 := by rw [AgrE, h]; rfl
  exact ⟨e, by rw [AgrB, e]; rfl⟩
theorem agr_no2 {ms : List Meas} {a b : List Int} (h : measOk ms = true) (h2 : (rdOk ms.length a && rdOk ms.length b) = false) : AgrE ms a b = 13 ∧ AgrB ms a b = false := by
  have e : AgrE ms a b = 13 := by rw [AgrE, h, if_pos rfl, h2]; rfl
  exact ⟨e, by rw [AgrB, e]; rfl⟩
theorem agr_yes {ms : List Meas} {a b : List Int} (h : measOk ms = true) (h2 : (rdOk ms.length a && rdOk ms.length b) = true) : AgrE ms a b = 0 ∧ AgrB ms a b = agrF ms a b := by
  have e : AgrE ms a b = 0 := by rw [AgrE, h, if_pos rfl, h2]; rfl
  exact ⟨e, by rw [AgrB, e]; rfl⟩
end Go.Proofs.YtppfniekcgnmjaaGreat.Pl
