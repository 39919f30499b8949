/- Texts of ours, joined: 16 of them. Conditions: none. -/
import Derived.Test.YtlfbghkcfmcnlaaGreatDoorZa
import Derived.ChangeMaps3
import Derived.WideShapes
import Derived.Laws.Strings
import Derived.Laws.StructEq
import Derived.MapKept
import Derived.Laws.MakeOwn
import Derived.Lib.Join
namespace Go.Sx
open Go.RowKit

/-- How keys lie in a map: what is asked of them. -/
class KeyE {K : Type} [DecidableEq K] (ek : K → Value) (kd : outParam TypeDesc) : Prop where
  same : ∀ a b, Instr.sameNow kd (ek a) (ek b) = some (decide (b = a))
  bits : ∀ a, Instr.sameBits 10000 (ek a) (ek a) = true
  check : ∀ (P : Program) (t : TypeId) (c : Bool) (w : World) (a : K), P.underlying t = some kd → (Instr.checkKey c 10000 t (ek a)).run P w = .ok () w

abbrev ekI (n : Int) : Value := .int .i64 n
abbrev ekS (s : ByteArray) : Value := .string s
theorem check_int (P : Program) (t : TypeId) (c : Bool) (w : World) (a : Int) (n : Nat) (h : P.underlying t = some (.int .i64)) : (Instr.checkKey c (n + 1) t (.int .i64 a)).run P w = .ok () w := by
  simp [Instr.checkKey, run_underlying h]
theorem check_str (P : Program) (t : TypeId) (c : Bool) (w : World) (a : ByteArray) (n : Nat) (h : P.underlying t = some .string) : (Instr.checkKey c (n + 1) t (.string a)).run P w = .ok () w := by
  simp [Instr.checkKey, run_underlying h]
theorem bytes_beq (a b : ByteArray) : (a == b) = decide (b = a) := by
  rw [beq_toListBytes, ByteArray.toList_eq, ByteArray.toList_eq]
  by_cases h : b = a
  · subst h; simp
  · rw [decide_eq_false h]
    cases hb : (a.data.toList == b.data.toList) with
    | false => rfl
    | true => exact absurd (WideShapes.bytes_inj (by simpa using hb)).symm h
theorem same_int (a b : Int) : Instr.sameNow (.int .i64) (.int .i64 a) (.int .i64 b) = some (decide (b = a)) := by
  simp only [Instr.sameNow, if_true]
  congr 1
  by_cases h : a = b
  · subst h; simp
  · rw [decide_eq_false (fun e => h e.symm)]; simpa using h
theorem same_str (a b : ByteArray) : Instr.sameNow .string (.string a) (.string b) = some (decide (b = a)) := by
  simp only [Instr.sameNow]
  rw [bytes_beq]
theorem bits_int (a : Int) (n : Nat) : Instr.sameBits n (.int .i64 a) (.int .i64 a) = true := by unfold Instr.sameBits; simp
theorem bits_str (a : ByteArray) (n : Nat) : Instr.sameBits n (.string a) (.string a) = true := by unfold Instr.sameBits; rw [bytes_beq]; simp
instance : KeyE ekI (.int .i64) := ⟨same_int, fun a => bits_int a 10000, fun P t c w a h => check_int P t c w a 9999 h⟩
instance : KeyE ekS .string := ⟨same_str, fun a => bits_str a 10000, fun P t c w a h => check_str P t c w a 9999 h⟩

section
variable {K V : Type} [DecidableEq K]
/-- What a map holds: its entries, the elder ones first. -/
def getL : List (K × V) → K → Option V
  | [], _ => none
  | p :: l, k => if p.1 = k then some p.2 else getL l k
def putL : List (K × V) → K → V → List (K × V)
  | [], k, v => [(k, v)]
  | p :: l, k, v => if p.1 = k then (k, v) :: l else p :: putL l k v
def findL : List (K × V) → K → Nat → Option (Nat × V)
  | [], _, _ => none
  | p :: l, k, n => if p.1 = k then some (n, p.2) else findL l k (n + 1)
theorem findL_get : ∀ (l : List (K × V)) (k : K) (n : Nat), (findL l k n).map (·.2) = getL l k
  | [], _, _ => rfl
  | p :: l, k, n => by
    rw [findL, getL]
    split
    · rfl
    · exact findL_get l k (n + 1)
theorem findL_ge : ∀ (l : List (K × V)) (k : K) (n i : Nat) (v : V), findL l k n = some (i, v) → n ≤ i ∧ i < n + l.length ∧ (putL l k = fun v => l.set (i - n) (k, v)) ∧ l[i - n]? = some (k, v)
  | [], _, _, _, _, h => by cases h
  | p :: l, k, n, i, v, h => by
    rw [findL] at h
    by_cases hp : p.1 = k
    · rw [if_pos hp] at h
      injection h with h
      injection h with h1 h2
      subst h1
      refine ⟨Nat.le_refl _, by simp, funext fun u => ?_, ?_⟩
      · rw [putL, if_pos hp, Nat.sub_self]; rfl
      · rw [Nat.sub_self, ← hp, ← h2]; rfl
    · rw [if_neg hp] at h
      obtain ⟨h1, h2, h3, h4⟩ := findL_ge l k (n + 1) i v h
      refine ⟨by omega, by simp only [List.length_cons]; omega, funext fun u => ?_, ?_⟩
      · rw [putL, if_neg hp, h3, show i - n = (i - (n + 1)) + 1 by omega]; rfl
      · rw [show i - n = (i - (n + 1)) + 1 by omega, List.getElem?_cons_succ]; exact h4
theorem findL_none : ∀ (l : List (K × V)) (k : K) (n : Nat), findL l k n = none → putL l k = fun v => l ++ [(k, v)]
  | [], _, _, _ => rfl
  | p :: l, k, n, h => by
    rw [findL] at h
    by_cases hp : p.1 = k
    · rw [if_pos hp] at h; cases h
    · rw [if_neg hp] at h
      have h3 := findL_none l k (n + 1) h
      refine funext fun u => ?_
      rw [putL, if_neg hp, h3]; rfl
variable (ek : K → Value) (ev : V → Value)
def entOk (es : List MapEntry) (l : List (K × V)) : Prop := es.map (fun e => (e.key, e.val)) = l.map (fun p => (ek p.1, ev p.2))
variable {ek ev}
theorem findNow_eq {kd : TypeDesc} [hk : KeyE ek kd] : ∀ (es : List MapEntry) (l : List (K × V)) (k : K) (n : Nat), entOk ek ev es l → Instr.findNow kd (ek k) es n = some ((findL l k n).map fun p => (p.1, ev p.2))
  | [], [], _, _, _ => rfl
  | [], _ :: _, _, _, h => by simp [entOk] at h
  | _ :: _, [], _, _, h => by simp [entOk] at h
  | e :: es, p :: l, k, n, h => by
    simp only [entOk, List.map_cons, List.cons.injEq, Prod.mk.injEq] at h
    obtain ⟨⟨h1, h2⟩, h3⟩ := h
    rw [Instr.findNow, h1, hk.same, findL]
    by_cases hp : p.1 = k
    · rw [if_pos hp, decide_eq_true hp]
      simp only [Option.map_some, h2]
    · rw [if_neg hp, decide_eq_false hp]
      exact findNow_eq es l k (n + 1) h3

/-- A map of one's own. -/
def mp (ek : K → Value) (ev : V → Value) (b : Nat) (l : List (K × V)) : Fact where
  fp := fun i => i = b
  P := fun w => ∃ (es : Array MapEntry) (clock : Nat), w.heap[b]? = some (.map es clock) ∧ entOk ek ev es.toList l
  stab := fun h ⟨es, c, h1, h2⟩ => ⟨es, c, (h b rfl).trans h1, h2⟩

class HasMp (O : List Fact) (b : Nat) (ek : outParam (K → Value)) (ev : outParam (V → Value)) (l : outParam (List (K × V))) : Prop where
  mem : mp ek ev b l ∈ O
instance (priority := 900) HasMp.tail (f : Fact) (O : List Fact) (b : Nat) (ek : K → Value) (ev : V → Value) (l : List (K × V)) [h : HasMp O b ek ev l] : HasMp (f :: O) b ek ev l := ⟨List.mem_cons_of_mem _ h.mem⟩
instance (priority := 1000) HasMp.head (O : List Fact) (b : Nat) (ek : K → Value) (ev : V → Value) (l : List (K × V)) : HasMp (mp ek ev b l :: O) b ek ev l := ⟨List.mem_cons_self ..⟩
class UpdMp (O : List Fact) (b : Nat) (ek : outParam (K → Value)) (ev : outParam (V → Value)) (l : outParam (List (K × V))) (f' : Fact) (O' : outParam (List Fact)) : Prop where
  rep : Rep O (mp ek ev b l) f' O'
instance (priority := 900) UpdMp.tail (f : Fact) (O O' : List Fact) (b : Nat) (ek : K → Value) (ev : V → Value) (l : List (K × V)) (f' : Fact) [h : UpdMp O b ek ev l f' O'] : UpdMp (f :: O) b ek ev l f' (f :: O') := ⟨.tail _ _ _ _ _ h.rep⟩
instance (priority := 1000) UpdMp.head (O : List Fact) (b : Nat) (ek : K → Value) (ev : V → Value) (l : List (K × V)) (f' : Fact) : UpdMp (mp ek ev b l :: O) b ek ev l f' (f' :: O) := ⟨.head _ _ _⟩
end

section
variable {K V : Type} {C : Cx} {Q : Exit → Act → World → Prop} {L : Regs} {O S : List Fact} {ops : Array Oper} {rest : List Oper} {ty : TypeId} {pos : String} {aft : Array Edge} {d : Nat} {t : TypeId}
/-- A new map. -/
theorem oj_makeMap (ek : K → Value) (ev : V → Value) (hdN : Nat.blt d C.N = true) (k : ∀ b, OJ C ops Q rest ((d, .map (some b)) :: L) (mp ek ev b [] :: O) S) : OJ C ops Q (⟨some d, .makeMap t none, ty, pos, aft, none⟩ :: rest) L O S := by
  intro a w hr hp
  have hdN' : d < C.N := by simpa [Nat.blt_eq] using hdN
  unfold wpListIn
  rw [if_pos (by simp [Region.wanted])]
  refine ⟨fun _ _ => trivial, ?_⟩
  rw [Oper.semAt_eq _ _ _ (by intro c h; cases h)]
  have hrun : (execOp a.eval ⟨some d, .makeMap t none, ty, pos, aft, none⟩).run C.P w = .ok (.value (.map (some w.heap.size))) (w.alloc (.map #[] 0)) := by
    simp [execOp, Instr.makeMap]
  rw [hrun]
  show wpListIn _ _ _ _ _ _ _ _
  refine k w.heap.size _ _ (hr.put hdN' _) ?_
  refine hp.addO ((Below.refl _ _).alloc (Nat.le_refl _) _) _ ⟨#[], 0, heap_alloc_new w _, rfl⟩ (fun b hb => ?_)
  have hb' : b = w.heap.size := hb
  subst hb'
  simp

end

section
variable {K V : Type} [DecidableEq K] {ek : K → Value} {ev : V → Value} {kd : TypeDesc} {C : Cx} {Q : Exit → Act → World → Prop} {L : Regs} {O S : List Fact} {ops : Array Oper} {rest : List Oper} {ty : TypeId} {pos : String} {aft : Array Edge} {d : Nat} {dst : Option Tmp} {gu : Option (Nat × Bool)} {t kt et : TypeId} {x y z : Operand}

theorem run_getObj {P : Program} {w : World} {b : Nat} {es : Array MapEntry} {clock : Nat} (hb : w.heap[b]? = some (.map es clock)) : (getObj b).run P w = .ok (.map es clock) w := MapKept.run_getObj_map hb

theorem y_lookup1 {b : Nat} {l : List (K × V)} {kk : K} (d0 : V) [hk : KeyE ek kd] [h : HasMp O b ek ev l] (ht : C.P.underlying t = some (.map kt et)) (hkt : C.P.underlying kt = some kd) (hz : ∀ w, (zeroValue et).run C.P w = .ok (ev d0) w)
    (hx : val L x = some (.map (some b))) (hy : val L y = some (ek kk)) : Yi C ⟨dst, .lookup t x y false, ty, pos, aft, gu⟩ L O S (ev ((getL l kk).getD d0)) :=
  yi_val (by intro c h; cases h) fun a w hr hp => by
    obtain ⟨es, clock, hb, he⟩ := (hp.own _ h.mem).1
    have hf := findNow_eq (ek := ek) (ev := ev) es.toList l kk 0 he
    have hg := findL_get l kk 0
    simp only [execOp, hr.val hx, hr.val hy, Instr.lookup, Sem.run_bind, run_underlying ht, Result.andThen_ok, run_getObj hb, Sem.run_pure, hk.check C.P kt _ w kk hkt, Instr.findKey, run_underlying hkt, hf]
    cases hfl : findL l kk 0 with
    | none => rw [hfl] at hg; simp only [Option.map_none] at hg; simp [← hg, hz]
    | some p => rw [hfl] at hg; simp only [Option.map_some] at hg; simp [← hg]

theorem ent_put {es : Array MapEntry} {l : List (K × V)} {kk : K} {v : V} {i : Nat} {u : V} (he : entOk ek ev es.toList l) (hi : findL l kk 0 = some (i, u)) :
    (((es[i]?).map (·.key)).getD (ek kk) = ek kk) ∧ entOk ek ev (es.modify i fun e => { e with key := ek kk, val := ev v }).toList (putL l kk v) := by
  obtain ⟨h1, h2, h3, h4⟩ := findL_ge l kk 0 i u hi
  rw [Nat.sub_zero] at h4
  have hlen : es.toList.length = l.length := by have := congrArg List.length he; simpa [entOk] using this
  have hi' : i < es.toList.length := by omega
  have hget : es.toList[i]? = some es.toList[i] := List.getElem?_eq_getElem hi'
  have hkey : es.toList[i].key = ek kk := by
    have h5 := congrArg (fun l => l[i]?) he
    simp only [List.getElem?_map, hget, h4, Option.map_some, Option.some.injEq, Prod.mk.injEq] at h5
    exact h5.1
  refine ⟨?_, ?_⟩
  · rw [← Array.getElem?_toList, hget]; exact hkey
  · unfold entOk at he ⊢
    rw [h3, Array.toList_modify, ChangeMaps.modify_eq_set _ _ _ _ hget, List.map_set, he, List.map_set, Nat.sub_zero]

theorem oj_mapUpdate {b : Nat} {l : List (K × V)} {kk : K} {v : V} {O' : List Fact} [hk : KeyE ek kd] [hu : UpdMp O b ek ev l (mp ek ev b (putL l kk v)) O'] (ht : C.P.underlying t = some (.map kt et)) (hkt : C.P.underlying kt = some kd)
    (hx : val L x = some (.map (some b))) (hy : val L y = some (ek kk)) (hz : val L z = some (ev v)) (k : OJ C ops Q rest L O' S) : OJ C ops Q (⟨none, .mapUpdate t x y z, ty, pos, aft, none⟩ :: rest) L O S := by
  intro a w hr hp
  unfold wpListIn
  rw [if_pos (by simp [Region.wanted])]
  refine ⟨fun _ _ => trivial, ?_⟩
  rw [Oper.semAt_eq _ _ _ (by intro c h; cases h)]
  have hown := hp.own _ hu.rep.mem
  obtain ⟨es, clock, hb, he⟩ := hown.1
  have hlt : b < w.heap.size := (hown.2 b rfl).1
  have hf := findNow_eq (ek := ek) (ev := ev) es.toList l kk 0 he
  have key : ∃ es' clock', (execOp a.eval ⟨none, .mapUpdate t x y z, ty, pos, aft, none⟩).run C.P w = .ok .skip { w with heap := w.heap.setIfInBounds b (.map es' clock') } ∧ entOk ek ev es'.toList (putL l kk v) := by
    cases hfl : findL l kk 0 with
    | none =>
      rw [hfl] at hf
      refine ⟨es.push ⟨ek kk, ev v, clock⟩, clock + 1, ?_, ?_⟩
      · simp only [execOp, hr.val hx, hr.val hy, hr.val hz, Instr.mapUpdate, Sem.run_bind, run_underlying ht, Result.andThen_ok, run_getObj hb, hk.check C.P kt _ w kk hkt, Instr.findKey, run_underlying hkt, hf, Option.map_none, Sem.run_pure, MapKept.run_setObj_map _ hb]
      · unfold entOk at he ⊢
        rw [findL_none l kk 0 hfl, Array.toList_push, List.map_append, he, List.map_append]; rfl
    | some p =>
      obtain ⟨i, u⟩ := p
      rw [hfl] at hf
      obtain ⟨h1, h2⟩ := ent_put (v := v) he hfl
      refine ⟨_, clock, ?_, h2⟩
      simp only [execOp, hr.val hx, hr.val hy, hr.val hz, Instr.mapUpdate, Sem.run_bind, run_underlying ht, Result.andThen_ok, run_getObj hb, hk.check C.P kt _ w kk hkt, Instr.findKey, run_underlying hkt, hf, Option.map_some, Sem.run_pure, h1, Instr.keyThatStays, hk.bits, if_true, MapKept.run_setObj_map _ hb]
  obtain ⟨es', clock', hrun, he'⟩ := key
  rw [hrun]
  show wpListIn _ _ _ _ _ _ _ _
  refine k _ _ hr ?_
  refine hp.write hu.rep rfl rfl rfl (by simp) (fun c _ hc => ?_) ⟨es', clock', ?_, he'⟩ (fun i hi => ?_)
  · have hne : b ≠ c := fun e => hc e.symm
    simp [hne]
  · simp [hlt]
  · have hi' : i = b := hi
    subst hi'
    exact ⟨by simpa using hlt, .inl rfl⟩
end
end Go.Sx
namespace Go.Sx
open Go.RowKit
class HasMpS {K V : Type} (S : List Fact) (b : Nat) (ek : outParam (K → Value)) (ev : outParam (V → Value)) (l : outParam (List (K × V))) : Prop where
  mem : mp ek ev b l ∈ S
section
variable {K V : Type}
instance (priority := 900) HasMpS.tail (f : Fact) (S : List Fact) (b : Nat) (ek : K → Value) (ev : V → Value) (l : List (K × V)) [h : HasMpS S b ek ev l] : HasMpS (f :: S) b ek ev l := ⟨List.mem_cons_of_mem _ h.mem⟩
instance (priority := 1000) HasMpS.head (S : List Fact) (b : Nat) (ek : K → Value) (ev : V → Value) (l : List (K × V)) : HasMpS (mp ek ev b l :: S) b ek ev l := ⟨List.mem_cons_self ..⟩
end
section
variable {K V : Type} [DecidableEq K] {ek : K → Value} {ev : V → Value} {kd : TypeDesc} {C : Cx} {Q : Exit → Act → World → Prop} {L : Regs} {O S : List Fact} {ops : Array Oper} {rest : List Oper} {ty : TypeId} {pos : String} {aft : Array Edge} {dst : Option Tmp} {gu : Option (Nat × Bool)} {t kt et : TypeId} {x y : Operand}
/-- What a key leads to, in a map that is shared. -/
theorem y_lookupS {b : Nat} {l : List (K × V)} {kk : K} (d0 : V) [hk : KeyE ek kd] [h : HasMpS S b ek ev l] (ht : C.P.underlying t = some (.map kt et)) (hkt : C.P.underlying kt = some kd) (hz : ∀ w, (zeroValue et).run C.P w = .ok (ev d0) w)
    (hx : val L x = some (.map (some b))) (hy : val L y = some (ek kk)) : Yi C ⟨dst, .lookup t x y true, ty, pos, aft, gu⟩ L O S (.tuple #[ev ((getL l kk).getD d0), .bool (getL l kk).isSome]) :=
  yi_val (by intro c h; cases h) fun a w hr hp => by
    obtain ⟨es, clock, hb, he⟩ := (hp.shared _ h.mem).1
    have hf := findNow_eq (ek := ek) (ev := ev) es.toList l kk 0 he
    have hg := findL_get l kk 0
    simp only [execOp, hr.val hx, hr.val hy, Instr.lookup, Sem.run_bind, run_underlying ht, Result.andThen_ok, run_getObj hb, Sem.run_pure, hk.check C.P kt _ w kk hkt, Instr.findKey, run_underlying hkt, hf]
    cases hfl : findL l kk 0 with
    | none => rw [hfl] at hg; simp only [Option.map_none] at hg; simp [← hg, hz]
    | some p => rw [hfl] at hg; simp only [Option.map_some] at hg; simp [← hg]
theorem y_lookupS1 {b : Nat} {l : List (K × V)} {kk : K} (d0 : V) [hk : KeyE ek kd] [h : HasMpS S b ek ev l] (ht : C.P.underlying t = some (.map kt et)) (hkt : C.P.underlying kt = some kd) (hz : ∀ w, (zeroValue et).run C.P w = .ok (ev d0) w)
    (hx : val L x = some (.map (some b))) (hy : val L y = some (ek kk)) : Yi C ⟨dst, .lookup t x y false, ty, pos, aft, gu⟩ L O S (ev ((getL l kk).getD d0)) :=
  yi_val (by intro c h; cases h) fun a w hr hp => by
    obtain ⟨es, clock, hb, he⟩ := (hp.shared _ h.mem).1
    have hf := findNow_eq (ek := ek) (ev := ev) es.toList l kk 0 he
    have hg := findL_get l kk 0
    simp only [execOp, hr.val hx, hr.val hy, Instr.lookup, Sem.run_bind, run_underlying ht, Result.andThen_ok, run_getObj hb, Sem.run_pure, hk.check C.P kt _ w kk hkt, Instr.findKey, run_underlying hkt, hf]
    cases hfl : findL l kk 0 with
    | none => rw [hfl] at hg; simp only [Option.map_none] at hg; simp [← hg, hz]
    | some p => rw [hfl] at hg; simp only [Option.map_some] at hg; simp [← hg]
end
section
variable {C : Cx} {Q : Exit → Act → World → Prop} {L : Regs} {O S : List Fact} {ops : Array Oper} {rest : List Oper}
theorem grow_trans {a b c : World} (h : Grow a b) (k : Grow b c) : Grow a c :=
  ⟨k.os.trans h.os, k.tape.trans h.tape, k.output.trans h.output, Nat.le_trans h.size k.size, fun i hi => (k.block i (Nat.lt_of_lt_of_le hi h.size)).trans (h.block i hi)⟩
/-- A block of one's own. -/
theorem Hp.bo {F : Nat → Prop} {w0 w : World} (hp : Hp F w0 O S w) {b : Nat} {ob : Obj} [h : HasB O b ob] : w.heap[b]? = some ob := (hp.own _ h.mem).1
/-- A shared map. -/
theorem Hp.mpS {K V : Type} {F : Nat → Prop} {w0 w : World} (hp : Hp F w0 O S w) {b : Nat} {ek : K → Value} {ev : V → Value} {l : List (K × V)} [h : HasMpS S b ek ev l] : (mp ek ev b l).P w ∧ b < w.heap.size :=
  ⟨(hp.shared _ h.mem).1, (hp.shared _ h.mem).2.1 b rfl⟩
/-- A map of one's own, handed to the caller. -/
theorem Hp.newM {K V : Type} {w0 w : World} (hp : Hp (fun i => i < w0.heap.size) w0 O S w) {b : Nat} {ek : K → Value} {ev : V → Value} {l : List (K × V)} [h : HasMp O b ek ev l] : (mp ek ev b l).P w ∧ w0.heap.size ≤ b ∧ b < w.heap.size :=
  ⟨(hp.own _ h.mem).1, Nat.le_of_not_lt ((hp.own _ h.mem).2 b rfl).2, ((hp.own _ h.mem).2 b rfl).1⟩
/-- What was known of old blocks at entry is known still. -/
theorem Hp.old {F : Nat → Prop} {w0 w : World} (hp : Hp F w0 O S w) (hF : ∀ b, b < w0.heap.size → F b) (f : Fact) (h : f.P w0) (hb : ∀ b, f.fp b → b < w0.heap.size) : Hp F w0 O (f :: S) w :=
  hp.addS f (f.stab (fun b hf => (hp.fr b (hF b (hb b hf))).2) h) (fun b hf => Nat.lt_of_lt_of_le (hb b hf) hp.size) (fun g hg b hf hg' => ((hp.own g hg).2 b hg').2 (hF b (hb b hf)))
theorem cj_rd {cd : Code} {α : Type} {sz : Nat} {enc : α → List Value} {A : Option Addr} {xs : List α} (h : Rd C.w0 sz enc A xs) (hF : ∀ b, b < C.w0.heap.size → C.F b) (k : CJ C cd Q L O (sl (fun b => b < C.w0.heap.size) sz enc A xs :: S)) : CJ C cd Q L O S :=
  fun a w hr hp => k a w hr (hp.old hF _ h (fun _ hb => hb))
end
end Go.Sx
namespace Go.Sx
open Go.RowKit
section
variable {C : Cx} {Q : Exit → Act → World → Prop} {L : Regs} {O O' S : List Fact} {ops : Array Oper} {rest : List Oper} {ty : TypeId} {pos : String} {aft : Array Edge} {dst : Option Tmp} {gu : Option (Nat × Bool)} {x y : Operand} {d : Nat}
theorem y_ixK {s e b n c k : Nat} (hu : C.P.underlying s = some (.slice e)) (hs : ∀ w, (sizeOf e).run C.P w = .ok 1 w) (hx : val L x = some (.slice (some ⟨b, 0, none⟩) n c)) (hy : val L y = some (.int .i64 (k : Nat))) (hk : k < n) :
    Yi C ⟨dst, .indexAddr s x y, ty, pos, aft, gu⟩ L O S (.pointer (some ⟨b, k, none⟩)) := by
  have h := y_ix (C := C) (O := O) (S := S) (dst := dst) (ty := ty) (pos := pos) (aft := aft) (gu := gu) hu hs hx hy ⟨by omega, by omega⟩ (by simp)
  have e : at_ (some (⟨b, 0, none⟩ : Addr)) ((k : Int).toNat * 1) = ⟨b, k, none⟩ := by
    show (⟨b, 0, none⟩ : Addr).add ((k : Int).toNat * 1) = _
    rw [addr_add]; simp
  rw [e] at h
  exact h
theorem setC_one (k : Nat) (v : Value) (cs : List Value) (hk : k < cs.length) : SetC k [v] cs (cs.set k v) := ⟨fun j => by
  rw [List.getElem?_set]
  by_cases h : k = j
  · subst h; simp [hk]
  · rw [if_neg h, if_neg (by simp; omega)], by simp, by simp; omega⟩
theorem oj_storeK {t b k e : Nat} {v : Value} {cs : List Value} (hx : val L x = some (.pointer (some ⟨b, k, none⟩))) (hy : val L y = some v) (hc : v.cells = #[v]) (hone : v.oneCell' = true) (hs : ∀ w, (sizeOf t).run C.P w = .ok 1 w)
    [hb : HasB O b (cellsB e cs)] (hk : k < cs.length) [hu : UpdB O b (cellsB e cs) (cellsB e (cs.set k v)) O'] (k' : OJ C ops Q rest L O' S) : OJ C ops Q (⟨none, .store t x y, ty, pos, aft, none⟩ :: rest) L O S :=
  letI := setC_one k v cs hk
  oj_store (vs := [v]) (n := 1) hx hy (by simpa using hc) (by simp [hone]) hs rfl k'
theorem made_one (z : Value) (n : Nat) : madeCells #[z] n = (List.replicate n z).toArray := by
  refine Array.ext (by simp [size_madeCells]) fun i h1 h2 => ?_
  simp [madeCells, Nat.mod_one]
theorem oj_makeSlice1 {t e n : Nat} {i : TypeInfo} {z : Value} (ht : C.P.underlying t = some (.slice e)) (hi : C.P.info? e = some i) (hz : i.zero = some z) (hsz : i.size = 1) (hzc : z.cells = #[z]) (hx : val L x = some (.int .i64 (n : Nat))) (hy : val L y = some (.int .i64 (n : Nat)))
    (hb : i.bytes * n ≤ 281474976710656) (h63 : n ≤ 9223372036854775807) (hdN : Nat.blt d C.N = true) (k : ∀ b, OJ C ops Q rest ((d, .slice (some ⟨b, 0, none⟩) n n) :: L) (ownB b (cellsB e (List.replicate n z)) :: O) S) :
    OJ C ops Q (⟨some d, .makeSlice t x y, ty, pos, aft, none⟩ :: rest) L O S :=
  oj_new (by intro c h; cases h) rfl rfl hdN (cellsB e (List.replicate n z)) (fun b => .slice (some ⟨b, 0, none⟩) n n) (fun a w hr _ => by
    have hb2 : (i.bytes : Int) * (n : Int) ≤ 281474976710656 := by
      have h0 : ((i.bytes * n : Nat) : Int) ≤ 281474976710656 := by omega
      rwa [Int.natCast_mul] at h0
    have h := run_make (P := C.P) w t e i z ht hi hz .i64 .i64 n n (by omega) (Int.le_refl _) hb2 (by omega)
    simp only [Int.toNat_natCast, hsz, Nat.mul_one, hzc, made_one] at h
    simp only [execOp, hr.val hx, hr.val hy, Sem.run_bind, h, Result.andThen_ok]
    rfl) k
/-- What has grown since an earlier world. -/
theorem Hp.grow0 {F : Nat → Prop} {w00 w0 w : World} (hp : Hp F w0 O S w) (hg : Grow w00 w0) (hF : ∀ b, b < w00.heap.size → F b) : Grow w00 w :=
  ⟨hp.os.trans hg.os, hp.tape.trans hg.tape, hp.output.trans hg.output, Nat.le_trans hg.size hp.size, fun b hb => ((hp.fr b (hF b hb)).2).trans (hg.block b hb)⟩
theorem cj_rd0 {cd : Code} {α : Type} {sz : Nat} {enc : α → List Value} {A : Option Addr} {xs : List α} (w00 : World) (hg : Grow w00 C.w0) (hF : ∀ b, b < w00.heap.size → C.F b) (h : Rd w00 sz enc A xs) (k : CJ C cd Q L O (sl (fun b => b < w00.heap.size) sz enc A xs :: S)) : CJ C cd Q L O S :=
  fun a w hr hp => k a w hr (hp.addS _ ((sl (fun b => b < w00.heap.size) sz enc A xs).stab (fun b hb => (hp.grow0 hg hF).block b hb) h) (fun _ hb => Nat.lt_of_lt_of_le hb (hp.grow0 hg hF).size) (fun g hg' i hb hb' => ((hp.own g hg').2 i hb').2 (hF i hb)))
end
end Go.Sx
namespace Go.Sx
open Go.RowKit
section
variable {C : Cx} {L : Regs} {O S : List Fact} {dst : Option Tmp} {ty : TypeId} {pos : String} {aft : Array Edge} {gu : Option (Nat × Bool)}
variable {t t' : TypeId} {x y : Operand}
theorem y_shr {m : Nat} {n : Nat} (hx : val L x = some (.int .i64 (m : Nat))) (hy : val L y = some (.int .i64 (n : Nat))) (hn : n ≤ 64) : Yi C ⟨dst, .binOp .shr t x y t', ty, pos, aft, gu⟩ L O S (.int .i64 ((m / 2 ^ n : Nat) : Int)) :=
  yi_val (by intro c h; cases h) fun a w hr _ => by
    have h2 : ¬ ((n : Int) < 0) := by omega
    have h1 : min n (IntKind.i64.bits) = n := Nat.min_eq_left hn
    have h3 : (m : Int).fdiv (2 ^ n) = ((m / 2 ^ n : Nat) : Int) := by
      rw [Int.fdiv_eq_ediv_of_nonneg _ (by have : (0 : Int) < 2 ^ n := Int.pow_pos (by decide); omega)]
      rw [show ((2 : Int) ^ n) = ((2 ^ n : Nat) : Int) by simp]
      exact (Int.natCast_ediv m (2 ^ n)).symm
    simp [execOp, hr.val hx, hr.val hy, eqGuard, binOp]
theorem y_shl {m : Nat} {n : Nat} (hx : val L x = some (.int .i64 (m : Nat))) (hy : val L y = some (.int .i64 (n : Nat))) (hn : n ≤ 64) (hm : m * 2 ^ n ≤ 9223372036854775807) : Yi C ⟨dst, .binOp .shl t x y t', ty, pos, aft, gu⟩ L O S (.int .i64 ((m * 2 ^ n : Nat) : Int)) :=
  yi_val (by intro c h; cases h) fun a w hr _ => by
    have h2 : ¬ ((n : Int) < 0) := by omega
    have h1 : min n (IntKind.i64.bits) = n := Nat.min_eq_left hn
    have h3 : IntKind.i64.wrap ((m : Int) * 2 ^ n) = ((m * 2 ^ n : Nat) : Int) := by
      rw [show ((m : Int) * 2 ^ n) = ((m * 2 ^ n : Nat) : Int) by simp]
      exact IntWalk.i64_in _ (by omega)
    simp only [execOp, hr.val hx, hr.val hy, eqGuard, binOp, Op.shift]
    simp [h2, h1, h3]
theorem y_shl1 {n : Nat} (hx : val L x = some (.int .i64 1)) (hy : val L y = some (.int .i64 (n : Nat))) (hn : n ≤ 62) : Yi C ⟨dst, .binOp .shl t x y t', ty, pos, aft, gu⟩ L O S (.int .i64 ((2 ^ n : Nat) : Int)) := by
  have hp : 2 ^ n ≤ 2 ^ 62 := Nat.pow_le_pow_right (by decide) hn
  have := y_shl (C := C) (O := O) (S := S) (dst := dst) (t := t) (t' := t') (ty := ty) (pos := pos) (aft := aft) (gu := gu) (m := 1) (n := n) hx hy (by omega) (by omega)
  rwa [Nat.one_mul] at this
theorem and_one (m : Nat) (hm : m ≤ 9223372036854775807) : IntKind.i64.wrap ((BitVec.ofInt 64 (m : Int) &&& BitVec.ofInt 64 1).toNat : Int) = ((m % 2 : Nat) : Int) := by
  have h : (BitVec.ofInt 64 (m : Int) &&& BitVec.ofInt 64 1).toNat = m % 2 := by
    rw [BitVec.toNat_and]
    have h1 : (BitVec.ofInt 64 (m : Int)).toNat = m := by
      rw [BitVec.toNat_ofInt]; omega
    have h2 : (BitVec.ofInt 64 1).toNat = 1 := by decide
    rw [h1, h2, Nat.and_one_is_mod]
  rw [h]; exact IntWalk.i64_in _ (by omega)
theorem y_and1 {m : Nat} (hx : val L x = some (.int .i64 (m : Nat))) (hy : val L y = some (.int .i64 1)) (hm : m ≤ 9223372036854775807) : Yi C ⟨dst, .binOp .and t x y t', ty, pos, aft, gu⟩ L O S (.int .i64 ((m % 2 : Nat) : Int)) :=
  yi_val (by intro c h; cases h) fun a w hr _ => by
    have e : binOp .and t (.int .i64 (m : Int)) (.int .i64 1) = pure (.int .i64 ((m % 2 : Nat) : Int)) := by
      unfold binOp
      simp only [ne_eq, not_true_eq_false, if_false]
      exact congrArg (fun z => (pure (Value.int .i64 z) : Sem Value)) (and_one m hm)
    simp [execOp, hr.val hx, hr.val hy, eqGuard, e]
theorem y_addS {s u : ByteArray} (hx : val L x = some (.string s)) (hy : val L y = some (.string u)) (h : s.size + u.size ≤ 9223372036854775807) : Yi C ⟨dst, .binOp .add t x y t', ty, pos, aft, gu⟩ L O S (.string (s ++ u)) :=
  yi_val (by intro c h; cases h) fun a w hr _ => by
    have h1 : ¬ (((s.size + u.size : Nat) : Int) > IntKind.i64.max) := by show ¬ (((s.size + u.size : Nat) : Int) > 9223372036854775807); omega
    simp only [execOp, hr.val hx, hr.val hy, eqGuard, binOp, Op.stringOp]
    rw [if_neg h1]; rfl
/-- the order of texts -/
def ltS (s u : ByteArray) : Bool := Op.bytesLess s.data.toList u.data.toList
theorem y_lssS {s u : ByteArray} (hx : val L x = some (.string s)) (hy : val L y = some (.string u)) : Yi C ⟨dst, .binOp .lss t x y t', ty, pos, aft, gu⟩ L O S (.bool (ltS s u)) :=
  yi_val (by intro c h; cases h) fun a w hr _ => by
    have e : Op.bytesLess s.toList u.toList = ltS s u := by unfold ltS; rw [ByteArray.toList_eq, ByteArray.toList_eq]
    simp [execOp, hr.val hx, hr.val hy, eqGuard, binOp, Op.stringOp, e]
theorem y_gtrS {s u : ByteArray} (hx : val L x = some (.string s)) (hy : val L y = some (.string u)) : Yi C ⟨dst, .binOp .gtr t x y t', ty, pos, aft, gu⟩ L O S (.bool (!(ltS s u || (s == u)))) :=
  yi_val (by intro c h; cases h) fun a w hr _ => by
    have e : Op.bytesLess s.toList u.toList = ltS s u := by unfold ltS; rw [ByteArray.toList_eq, ByteArray.toList_eq]
    simp [execOp, hr.val hx, hr.val hy, eqGuard, binOp, Op.stringOp, e, beq_toListBytes]
end
end Go.Sx
namespace Go.Sx
open Go.RowKit

theorem flatMap_set {α : Type} (enc : α → List Value) (sz : Nat) (he : ∀ x, (enc x).length = sz) (xs : List α) (i : Nat) (u : α) (hi : i < xs.length) (j : Nat) :
    ((xs.set i u).flatMap enc)[j]? = if i * sz ≤ j ∧ j < i * sz + sz then (enc u)[j - i * sz]? else (xs.flatMap enc)[j]? := by
  by_cases hz : sz = 0
  · subst hz
    have h1 : ∀ l : List α, l.flatMap enc = [] := fun l => by
      rw [List.flatMap_eq_nil_iff]; intro x _; exact List.eq_nil_of_length_eq_zero (he x)
    rw [h1, h1, if_neg (by omega)]
  · by_cases hj : j < xs.length * sz
    · have hq : j / sz < xs.length := (Nat.div_lt_iff_lt_mul (Nat.pos_of_ne_zero hz)).2 hj
      have hr : j % sz < sz := Nat.mod_lt _ (Nat.pos_of_ne_zero hz)
      have hd : (j / sz) * sz + j % sz = j := by rw [Nat.mul_comm]; exact Nat.div_add_mod j sz
      have hx : xs[j / sz]? = some xs[j / sz] := List.getElem?_eq_getElem hq
      have e2 := flatMap_get enc sz he xs (j / sz) _ (j % sz) hx hr
      rw [hd] at e2
      by_cases hqi : i = j / sz
      · have hx2 : (xs.set i u)[j / sz]? = some u := by rw [List.getElem?_set, if_pos hqi, if_pos (by omega)]
        have e1 := flatMap_get enc sz he (xs.set i u) (j / sz) _ (j % sz) hx2 hr
        rw [hd] at e1
        rw [e1, if_pos (by rw [hqi]; omega), show j - i * sz = j % sz by rw [hqi]; omega]
      · have hx2 : (xs.set i u)[j / sz]? = some xs[j / sz] := by rw [List.getElem?_set, if_neg hqi, hx]
        have e1 := flatMap_get enc sz he (xs.set i u) (j / sz) _ (j % sz) hx2 hr
        rw [hd] at e1
        rw [e1, ← e2, if_neg ?_]
        rintro ⟨h1, h2⟩
        apply hqi
        have h3 : i ≤ j / sz := (Nat.le_div_iff_mul_le (Nat.pos_of_ne_zero hz)).2 h1
        have h4 : j / sz < i + 1 := (Nat.div_lt_iff_lt_mul (Nat.pos_of_ne_zero hz)).2 (by rw [Nat.succ_mul]; omega)
        omega
    · have l1 := flatMap_len enc sz he (xs.set i u)
      have l2 := flatMap_len enc sz he xs
      rw [List.length_set] at l1
      have h5 : i * sz + sz ≤ xs.length * sz := by
        have h6 := Nat.mul_le_mul_right sz (Nat.succ_le_of_lt hi)
        rwa [Nat.succ_mul] at h6
      have h7 : ¬ (i * sz ≤ j ∧ j < i * sz + sz) := by omega
      have e1 : ((xs.set i u).flatMap enc)[j]? = none := List.getElem?_eq_none (by omega)
      have e2 : (xs.flatMap enc)[j]? = none := List.getElem?_eq_none (by omega)
      rw [e1, if_neg h7, e2]

section
variable {C : Cx} {Q : Exit → Act → World → Prop} {L : Regs} {O S : List Fact} {ops : Array Oper} {rest : List Oper} {ty : TypeId} {pos : String} {aft : Array Edge}
/-- A whole element is stored into a slice of one's own. -/
theorem oj_storeE {α : Type} {t e sz c i : Nat} {enc : α → List Value} {A : Option Addr} {xs : List α} {u : α} {x y : Operand} {v : Value} {O' : List Fact} (hx : val L x = some (.pointer (some (at_ A (i * sz))))) (hy : val L y = some v) (hc : v.cells = (enc u).toArray) (hone : ((enc u).all fun v => v.oneCell') = true)
    (hs : ∀ w, (sizeOf t).run C.P w = .ok sz w) (he : ∀ x, (enc x).length = sz) (hi : i < xs.length) [hu : UpdOw O A e sz enc c xs (ow e sz enc A c (xs.set i u)) O'] (k' : OJ C ops Q rest L O' S) : OJ C ops Q (⟨none, .store t x y, ty, pos, aft, none⟩ :: rest) L O S := by
  intro a w hr hp
  unfold wpListIn
  rw [if_pos (by simp [Region.wanted])]
  refine ⟨fun _ _ => trivial, ?_⟩
  rw [Oper.semAt_eq _ _ _ (by intro c h; cases h)]
  have hP : w.ownsRow 0 e sz (.slice A xs.length c) xs.length (xs.flatMap enc) := (hp.own _ hu.rep.mem).1
  rcases hP.2 with ⟨_, h3⟩ | ⟨g, cap, cur, hv, h3, h4, h5, h6, h7, h8⟩
  · omega
  · injection hv with hA _ hcap
    subst hA
    subst hcap
    have hcur : w.heap[g]? = some (.cells cur.toList.toArray e (0, 0)) := by rw [h4]
    have hisz : i * sz + sz ≤ xs.length * sz := by
      have h6 := Nat.mul_le_mul_right sz (Nat.succ_le_of_lt hi)
      rwa [Nat.succ_mul] at h6
    have hcs : xs.length * sz ≤ c * sz := Nat.mul_le_mul_right sz h5
    obtain ⟨w', cs2, g1, g2, g3, g4, g5, g6, g7, g8, g9⟩ := run_storeCells C.P (enc u) w g (i * sz) 0 e cur.toList hcur hone (by rw [he]; simp only [Array.length_toList]; omega)
    have hat : at_ (some ⟨g, 0, none⟩) (i * sz) = ⟨g, i * sz, none⟩ := by rw [at_some, addr_add]; simp
    rw [hat] at hx
    have hrun : (execOp a.eval ⟨none, .store t x y, ty, pos, aft, none⟩).run C.P w = .ok .skip w' := by
      simp [execOp, hr.val hx, hr.val hy, Instr.storeAt, Instr.sureAddr, storeVar, hc, hs, he, g1]
    rw [hrun]
    show wpListIn _ _ _ _ _ _ _ _
    refine k' _ w' hr ?_
    have hnew : w'.ownsRow 0 e sz (.slice (some ⟨g, 0, none⟩) (xs.set i u).length c) (xs.set i u).length ((xs.set i u).flatMap enc) := by
      have hl2 := flatMap_len enc sz he (xs.set i u)
      rw [List.length_set] at hl2 ⊢
      refine ⟨hl2, .inr ⟨g, c, cs2.toArray, rfl, h3, g2, h5, h6, by simp only [List.size_toArray]; rw [g4]; simpa using h7, ?_⟩⟩
      refine List.ext_getElem? fun j => ?_
      rw [flatMap_set enc sz he xs i u hi j, ← h8]
      rw [List.getElem?_take, List.getElem?_take]
      show (if j < xs.length * sz then cs2[j]? else none) = _
      rw [g3 j, he]
      simp only [Nat.add_zero]
      by_cases hj : j < xs.length * sz
      · rw [if_pos hj, if_pos hj]
      · rw [if_neg hj, if_neg hj, if_neg (by omega)]
    refine hp.write hu.rep g6 g7 g8 (by omega) (fun c1 _ hc1 => g5 c1 (fun e => hc1 (by rw [e]; rfl))) hnew (fun c1 hc1 => ⟨?_, .inl hc1⟩)
    have h9 : some g = some c1 := hc1
    injection h9 with h9
    rw [g9, ← h9]
    exact (Array.getElem?_eq_some_iff.1 h4).1

/-- A shared fact that follows from what is known. -/
theorem cj_addS {cd : Code} (f : Fact) (h : ∀ w, Hp C.F C.w0 O S w → f.P w ∧ ∀ b, f.fp b → b < w.heap.size ∧ ∀ g ∈ O, ¬ g.fp b) (k : CJ C cd Q L O (f :: S)) : CJ C cd Q L O S :=
  fun a w hr hp => k a w hr (hp.addS f (h w hp).1 (fun b hb => ((h w hp).2 b hb).1) (fun g hg b hb => ((h w hp).2 b hb).2 g hg))
theorem ej_addS {e : Exit} (f : Fact) (h : ∀ w, Hp C.F C.w0 O S w → f.P w ∧ ∀ b, f.fp b → b < w.heap.size ∧ ∀ g ∈ O, ¬ g.fp b) (k : EJ C Q e L O (f :: S)) : EJ C Q e L O S :=
  fun a w hr hp => k a w hr (hp.addS f (h w hp).1 (fun b hb => ((h w hp).2 b hb).1) (fun g hg b hb => ((h w hp).2 b hb).2 g hg))
end

/-- A function that is handed a slice of its caller's, to turn its elements. -/
theorem enter_ow {α : Type} {P : Program} {f : FuncId} {fn : Func} {c : Code} {args : List Value} {w : World} {R : Ending → World → Prop} {e sz cap : Nat} {enc : α → List Value} {A : Option Addr} {xs : List α} (S : List Fact)
    (hf : P.funcs[f]? = some fn) (hb : fn.body = some c) (hn : args.length ≤ fn.ntmps) (hO : (ow e sz enc A cap xs).P w) (hlt : ∀ b, (ow e sz enc A cap xs).fp b → b < w.heap.size) (hS : ∀ g ∈ S, g.P w ∧ ∀ i, g.fp i → i < w.heap.size ∧ ¬ (ow e sz enc A cap xs).fp i)
    (h : CJ ⟨P, none, fun i => i < w.heap.size ∧ ¬ (ow e sz enc A cap xs).fp i, w, fn.ntmps, []⟩ c (bodyPost P fn R) (regsOf 0 args) [ow e sz enc A cap xs] S) : Calls P f args.toArray w R := by
  refine enter (fun i => i < w.heap.size ∧ ¬ (ow e sz enc A cap xs).fp i) [ow e sz enc A cap xs] S hf hb hn ⟨rfl, rfl, rfl, Nat.le_refl _, fun i hi => ⟨hi.1, rfl⟩, fun g hg => ?_, by simp, fun g hg => ⟨(hS g hg).1, fun i hi => ((hS g hg).2 i hi).1, fun o ho i hi hio => ?_⟩⟩ h
  · simp only [List.mem_singleton] at hg
    subst hg
    exact ⟨hO, fun i hi => ⟨hlt i hi, fun h => h.2 hi⟩⟩
  · simp only [List.mem_singleton] at ho
    subst ho
    exact ((hS g hg).2 i hi).2 hio
theorem Hp.mutO {α : Type} {e sz cap : Nat} {enc : α → List Value} {A : Option Addr} {xs : List α} {w w' : World} {O S : List Fact} (hp : Hp (fun i => i < w.heap.size ∧ ¬ (ow e sz enc A cap xs).fp i) w O S w') : Mut (ow e sz enc A cap xs) w w' :=
  ⟨hp.os, hp.tape, hp.output, hp.size, fun i hi hne => (hp.fr i ⟨hi, hne⟩).2⟩
theorem Hp.owP {α : Type} {F : Nat → Prop} {w0 w : World} {O S : List Fact} (hp : Hp F w0 O S w) {e sz cap : Nat} {enc : α → List Value} {A : Option Addr} {xs : List α} [h : HasOw O A e sz enc cap xs] : (ow e sz enc A cap xs).P w := (hp.own _ h.mem).1
theorem Hp.owL {α : Type} {F : Nat → Prop} {w0 w : World} {O S : List Fact} (hp : Hp F w0 O S w) {e sz cap : Nat} {enc : α → List Value} {A : Option Addr} {xs : List α} [h : HasOw O A e sz enc cap xs] : ∀ b, (ow e sz enc A cap xs).fp b → b < w.heap.size := fun b hb => ((hp.own _ h.mem).2 b hb).1
end Go.Sx
namespace Go.Proofs.YtlfbghkcfmcnlaaGreatDoor
open Go.Sx Go.RowKit

theorem not_t {b : Bool} (h : (!b) = true) : b = false := by cases b <;> simp_all
theorem not_f {b : Bool} (h : (!b) = false) : b = true := by cases b <;> simp_all
/-- the first index of a number, or -1 -/
def seek : List Int → Int → Int → Int
  | [], _, _ => -1
  | x :: l, n, i => if x = n then i else seek l n (i + 1)
theorem seek_drop (l : List Int) (n : Int) (k : Nat) (x : Int) (h : l[k]? = some x) : seek (l.drop k) n k = if x = n then (k : Int) else seek (l.drop (k + 1)) n ((k + 1 : Nat) : Int) := by
  obtain ⟨h1, h2⟩ := List.getElem?_eq_some_iff.1 h
  rw [List.drop_eq_getElem_cons h1, h2, seek]; rfl
def btw (lo n hi : Int) : Bool := decide (lo ≤ n) && decide (n ≤ hi)
theorem all_drop {α : Type} (p : α → Bool) (l : List α) (k : Nat) (x : α) (h : l[k]? = some x) : (l.drop k).all p = (p x && (l.drop (k + 1)).all p) := by
  obtain ⟨h1, h2⟩ := List.getElem?_eq_some_iff.1 h
  rw [List.drop_eq_getElem_cons h1, h2, List.all_cons]
def letB (n : Int) : Bool := decide (97 ≤ n) && decide (n ≤ 122)
def okB (n : Int) : Bool := letB n || (decide (48 ≤ n) && decide (n ≤ 57)) || (n == 45)
abbrev bsOf (s : ByteArray) : List UInt8 := s.data.toList
def okBs (b : UInt8) : Bool := okB b.toNat
def isW (s : ByteArray) : Bool := decide (1 ≤ (s.size : Int)) && decide ((s.size : Int) ≤ 16) && letB ((bsOf s).getD 0 0).toNat && (bsOf s).all okBs
theorem bs_get {s : ByteArray} {k : Nat} {b : UInt8} (h : (bsOf s)[k]? = some b) : s[k]? = some b := by
  have h1 : k < s.size := by have := (List.getElem?_eq_some_iff.1 h).1; simpa using this
  rw [getElem?_pos s k h1]
  obtain ⟨h2, h3⟩ := List.getElem?_eq_some_iff.1 h
  rw [← h3]; rfl
theorem bs_len (s : ByteArray) : (bsOf s).length = s.size := by simp
theorem bs_first {s : ByteArray} (h : 1 ≤ s.size) : s[(0 : Int).toNat]? = some ((bsOf s).getD 0 0) := by
  refine bs_get ?_
  rw [List.getD_eq_getElem?_getD]
  have : 0 < (bsOf s).length := by rw [bs_len]; omega
  show (bsOf s)[0]? = _
  rw [List.getElem?_eq_getElem this]; rfl
theorem okB_V (n : Int) : (((decide (n < 97) || decide (122 < n)) && (decide (n < 48) || decide (57 < n))) && (n != 45)) = !(okB n) := by
  have e1 : decide (n < 97) = !(decide (97 ≤ n)) := by by_cases h : 97 ≤ n; (rw [decide_eq_true h, decide_eq_false (by omega)]; rfl); (rw [decide_eq_false h, decide_eq_true (by omega)]; rfl)
  have e2 : decide (122 < n) = !(decide (n ≤ 122)) := by by_cases h : n ≤ 122; (rw [decide_eq_true h, decide_eq_false (by omega)]; rfl); (rw [decide_eq_false h, decide_eq_true (by omega)]; rfl)
  have e3 : decide (n < 48) = !(decide (48 ≤ n)) := by by_cases h : 48 ≤ n; (rw [decide_eq_true h, decide_eq_false (by omega)]; rfl); (rw [decide_eq_false h, decide_eq_true (by omega)]; rfl)
  have e4 : decide (57 < n) = !(decide (n ≤ 57)) := by by_cases h : n ≤ 57; (rw [decide_eq_true h, decide_eq_false (by omega)]; rfl); (rw [decide_eq_false h, decide_eq_true (by omega)]; rfl)
  unfold okB letB
  rw [e1, e2, e3, e4]
  cases decide (97 ≤ n) <;> cases decide (n ≤ 122) <;> cases decide (48 ≤ n) <;> cases decide (n ≤ 57) <;> cases h : (n == 45) <;> simp [bne, h]
theorem bytes_eq {a b : ByteArray} (h : (a == b) = true) : a = b := by rw [bytes_beq] at h; exact (of_decide_eq_true h).symm
theorem bytes_ne {a b : ByteArray} (h : (a == b) = false) : ¬ a = b := by rw [bytes_beq] at h; exact fun e => of_decide_eq_false h e.symm
end Go.Proofs.YtlfbghkcfmcnlaaGreatDoor
namespace Go.Proofs.YtlfbghkcfmcnlaaGreatDoor
open Go.Sx Go.RowKit

abbrev smS (l : List ByteArray) : Prop := ∀ s ∈ l, s.size ≤ 9223372036854775807
def hasW (l : List ByteArray) (s : ByteArray) : Bool := l.any (fun q => decide (q = s))
def wordsG : List ByteArray → List ByteArray → Bool
  | _, [] => true
  | pre, s :: l => (isW s && !(hasW pre s)) && wordsG (pre ++ [s]) l
def wordsB (l : List ByteArray) : Bool := wordsG [] l
theorem wordsG_drop (l : List ByteArray) (k : Nat) (s : ByteArray) (h : l[k]? = some s) : wordsG (l.take k) (l.drop k) = ((isW s && !(hasW (l.take k) s)) && wordsG (l.take (k + 1)) (l.drop (k + 1))) := by
  obtain ⟨h1, h2⟩ := List.getElem?_eq_some_iff.1 h
  rw [List.drop_eq_getElem_cons h1, h2, wordsG, List.take_add_one, h]; rfl
abbrev evB (b : Bool) : Value := .bool b
def mapW (l : List ByteArray) : List (ByteArray × Bool) := l.map (fun s => (s, true))
theorem getL_mapW (l : List ByteArray) (s : ByteArray) : (getL (mapW l) s).getD false = hasW l s := by
  induction l with
  | nil => rfl
  | cons q l ih =>
    show (if q = s then some true else getL (mapW l) s).getD false = (decide (q = s) || hasW l s)
    by_cases h : q = s
    · rw [if_pos h, decide_eq_true h]; rfl
    · rw [if_neg h, ih, decide_eq_false h]; rfl
theorem putL_newW (l : List ByteArray) (s : ByteArray) (h : hasW l s = false) : putL (mapW l) s true = mapW (l ++ [s]) := by
  induction l with
  | nil => rfl
  | cons q l ih =>
    simp only [hasW, List.any_cons, Bool.or_eq_false_iff, decide_eq_false_iff_not] at h
    show (if q = s then _ else _) = _
    rw [if_neg h.1]
    show (q, true) :: putL (mapW l) s true = _
    rw [ih h.2]; rfl
theorem words_V (pre : List ByteArray) (s : ByteArray) : (!(isW s) || hasW pre s) = !(isW s && !(hasW pre s)) := by
  cases isW s <;> cases hasW pre s <;> rfl
/-- where a text is in a list; -1: nowhere -/
def firstS (s : ByteArray) : List ByteArray → Nat → Int
  | [], _ => -1
  | q :: l, n => if q = s then n else firstS s l (n + 1)
theorem firstS_drop (s : ByteArray) (l : List ByteArray) (k : Nat) (q : ByteArray) (h : l[k]? = some q) : firstS s (l.drop k) k = if q = s then (k : Int) else firstS s (l.drop (k + 1)) (k + 1) := by
  obtain ⟨h1, h2⟩ := List.getElem?_eq_some_iff.1 h
  rw [List.drop_eq_getElem_cons h1, h2, firstS]
theorem firstS_has (s : ByteArray) (l : List ByteArray) (n : Nat) : decide (0 ≤ firstS s l n) = hasW l s := by
  induction l generalizing n with
  | nil => rfl
  | cons q l ih =>
    rw [firstS]
    show _ = (decide (q = s) || hasW l s)
    by_cases h : q = s
    · rw [if_pos h, decide_eq_true h, Bool.true_or]; exact decide_eq_true (by omega)
    · rw [if_neg h, ih, decide_eq_false h, Bool.false_or]
/-- where the first text is that does not lie in another list; -1: nowhere -/
def firstN (ns : List ByteArray) : List ByteArray → Nat → Int
  | [], _ => -1
  | q :: l, n => if hasW ns q = false then n else firstN ns l (n + 1)
theorem firstN_drop (ns l : List ByteArray) (k : Nat) (q : ByteArray) (h : l[k]? = some q) : firstN ns (l.drop k) k = if hasW ns q = false then (k : Int) else firstN ns (l.drop (k + 1)) (k + 1) := by
  obtain ⟨h1, h2⟩ := List.getElem?_eq_some_iff.1 h
  rw [List.drop_eq_getElem_cons h1, h2, firstN]
theorem firstN_all (ns l : List ByteArray) (n : Nat) : decide (0 ≤ firstN ns l n) = !(l.all (hasW ns)) := by
  induction l generalizing n with
  | nil => rfl
  | cons q l ih =>
    rw [firstN, List.all_cons]
    cases h : hasW ns q with
    | false => rw [if_pos rfl]; exact decide_eq_true (by omega)
    | true => rw [if_neg (by simp), ih, Bool.true_and]
end Go.Proofs.YtlfbghkcfmcnlaaGreatDoor
namespace Go.Proofs.YtlfbghkcfmcnlaaGreatDoor
open Go.Sx Go.RowKit

/-- a trait, and where its values lie -/
structure TraitV where
  name : ByteArray
  A : Option Addr
  c : Nat
  vals : List ByteArray
  must : Bool
instance : Inhabited TraitV := ⟨⟨⟨#[]⟩, none, 0, [], false⟩⟩
abbrev encTr (t : TraitV) : List Value := [.string t.name, .slice t.A t.vals.length t.c, .bool t.must]
structure GoodT (w : World) (t : TraitV) : Prop where
  rd : Rd w 1 enStr t.A t.vals
  sm : smS t.vals
  nm : t.name.size ≤ 9223372036854775807
theorem GoodT.mono {w w' : World} {t : TraitV} (h : GoodT w t) (hg : Grow w w') : GoodT w' t := ⟨h.rd.mono hg, h.sm, h.nm⟩
/-- a class, and where its traits and parts lie -/
structure ClassV where
  name : ByteArray
  At : Option Addr
  ct : Nat
  traits : List TraitV
  Ap : Option Addr
  cp : Nat
  parts : List ByteArray
  most : Int
abbrev zC : ClassV := ⟨⟨#[]⟩, none, 0, [], none, 0, [], 0⟩
instance : Inhabited ClassV := ⟨zC⟩
abbrev encCl (c : ClassV) : List Value := [.string c.name, .slice c.At c.traits.length c.ct, .slice c.Ap c.parts.length c.cp, .int .i64 c.most]
abbrev evC (c : ClassV) : Value := .agg #[.string c.name, .slice c.At c.traits.length c.ct, .slice c.Ap c.parts.length c.cp, .int .i64 c.most]
structure GoodC (w : World) (c : ClassV) : Prop where
  rt : Rd w 3 encTr c.At c.traits
  tr : ∀ t ∈ c.traits, GoodT w t
  rp : Rd w 1 enStr c.Ap c.parts
  sm : smS c.parts
  nm : c.name.size ≤ 9223372036854775807
theorem GoodC.mono {w w' : World} {c : ClassV} (h : GoodC w c) (hg : Grow w w') : GoodC w' c := ⟨h.rt.mono hg, fun t ht => (h.tr t ht).mono hg, h.rp.mono hg, h.sm, h.nm⟩
theorem GoodC.zero (w : World) : GoodC w zC := ⟨.nil, by simp, .nil, fun s hs => (by cases hs), by decide⟩
/-- an item, and where what is said of it and its parts lie -/
inductive ItemV where
  | mk (cls : ByteArray) (As : Option Addr) (cs : Nat) (says : List ByteArray) (Ap : Option Addr) (cp : Nat) (parts : List ItemV)
namespace ItemV
def cls : ItemV → ByteArray | mk c .. => c
def As : ItemV → Option Addr | mk _ a .. => a
def cs : ItemV → Nat | mk _ _ c .. => c
def says : ItemV → List ByteArray | mk _ _ _ s .. => s
def Ap : ItemV → Option Addr | mk _ _ _ _ a .. => a
def cp : ItemV → Nat | mk _ _ _ _ _ c _ => c
def parts : ItemV → List ItemV | mk _ _ _ _ _ _ p => p
end ItemV
instance : Inhabited ItemV := ⟨.mk ⟨#[]⟩ none 0 [] none 0 []⟩
abbrev encIt (x : ItemV) : List Value := [.string x.cls, .slice x.As x.says.length x.cs, .slice x.Ap x.parts.length x.cp]
abbrev evI (x : ItemV) : Value := .agg #[.string x.cls, .slice x.As x.says.length x.cs, .slice x.Ap x.parts.length x.cp]
inductive GoodI (w : World) : ItemV → Prop
  | mk {x : ItemV} (hs : Rd w 1 enStr x.As x.says) (hp : Rd w 3 encIt x.Ap x.parts) (hn : x.cls.size ≤ 9223372036854775807) (hm : smS x.says) (hr : ∀ p ∈ x.parts, GoodI w p) : GoodI w x
theorem GoodI.rs {w : World} {x : ItemV} (h : GoodI w x) : Rd w 1 enStr x.As x.says := by cases h; assumption
theorem GoodI.rp {w : World} {x : ItemV} (h : GoodI w x) : Rd w 3 encIt x.Ap x.parts := by cases h; assumption
theorem GoodI.sm {w : World} {x : ItemV} (h : GoodI w x) : smS x.says := by cases h; assumption
theorem GoodI.nm {w : World} {x : ItemV} (h : GoodI w x) : x.cls.size ≤ 9223372036854775807 := by cases h; assumption
theorem GoodI.pt {w : World} {x : ItemV} (h : GoodI w x) : ∀ p ∈ x.parts, GoodI w p := by cases h; assumption
theorem GoodI.mono {w w' : World} {x : ItemV} (h : GoodI w x) (hg : Grow w w') : GoodI w' x := by
  induction h with
  | mk hs hp hn hm _ ih => exact .mk (hs.mono hg) (hp.mono hg) hn hm ih

/-! ### What the program says of a grammar -/
def traitOk (t : TraitV) : Bool := !((!(decide (1 ≤ (t.vals.length : Int)) && decide ((t.vals.length : Int) ≤ 8))) || !(wordsB t.vals))
def class1 (c : ClassV) : Bool := !(((decide (8 < (c.traits.length : Int)) || !(decide (0 ≤ c.most) && decide (c.most ≤ 6))) || (((c.parts.length : Int) == 0) && (c.most != 0))) || !(wordsB c.parts))
def classOk (ns : List ByteArray) (c : ClassV) : Bool := class1 c && (c.parts.all (hasW ns) && (c.traits.all traitOk && wordsB (c.traits.map (·.name))))
theorem class1_tr {c : ClassV} (h : class1 c = true) : (c.traits.length : Int) ≤ 8 := by
  unfold class1 at h
  simp only [Bool.not_eq_true', Bool.or_eq_false_iff, decide_eq_false_iff_not] at h
  omega
def namesC (l : List ClassV) : List ByteArray := l.map (·.name)
def gramOk (l : List ClassV) : Bool := (decide (1 ≤ (l.length : Int)) && decide ((l.length : Int) ≤ 12)) && (wordsB (namesC l) && l.all (classOk (namesC l)))
def putAll : List (ByteArray × ClassV) → List ClassV → List (ByteArray × ClassV)
  | m, [] => m
  | m, c :: l => putAll (putL m c.name c) l
theorem putAll_add (m : List (ByteArray × ClassV)) (l : List ClassV) (c : ClassV) : putAll m (l ++ [c]) = putL (putAll m l) c.name c := by
  induction l generalizing m with
  | nil => rfl
  | cons d l ih => exact ih _
def gramM (l : List ClassV) : List (ByteArray × ClassV) := putAll [] l
def gramE (l : List ClassV) : Int := if gramOk l then 0 else 10

/-! ### What the program says of a description -/
def saysOne (t : TraitV) (s : ByteArray) : Bool := !(((s == ⟨#[]⟩) && t.must) || ((!(s == ⟨#[]⟩)) && !(hasW t.vals s)))
def saysOk : List TraitV → List ByteArray → Bool
  | t :: ts, s :: ss => saysOne t s && saysOk ts ss
  | _, _ => true
theorem saysOk_drop (ts : List TraitV) (ss : List ByteArray) (k : Nat) (t : TraitV) (s : ByteArray) (ht : ts[k]? = some t) (hs : ss[k]? = some s) : saysOk (ts.drop k) (ss.drop k) = (saysOne t s && saysOk (ts.drop (k + 1)) (ss.drop (k + 1))) := by
  obtain ⟨h1, h2⟩ := List.getElem?_eq_some_iff.1 ht
  obtain ⟨h3, h4⟩ := List.getElem?_eq_some_iff.1 hs
  rw [List.drop_eq_getElem_cons h1, h2, List.drop_eq_getElem_cons h3, h4, saysOk]
mutual
def fitsI (g : List (ByteArray × ClassV)) : ItemV → Int → Int → Option Int
  | .mk cls _ _ says _ _ parts, deep, most =>
    match getL g cls with
    | none => none
    | some c => if 3 < deep ∨ most < 1 ∨ says.length ≠ c.traits.length ∨ c.most < (parts.length : Int) then none else if saysOk c.traits says then fitsL g c.parts parts deep most 1 else none
def fitsL (g : List (ByteArray × ClassV)) (cp : List ByteArray) : List ItemV → Int → Int → Int → Option Int
  | [], _, _, many => some many
  | p :: l, deep, most, many => if hasW cp p.cls then (match fitsI g p (deep + 1) (most - many) with | none => none | some n => fitsL g cp l deep most (many + n)) else none
end
mutual
theorem fitsI_bd (g : List (ByteArray × ClassV)) : ∀ (x : ItemV) (deep most n : Int), fitsI g x deep most = some n → 1 ≤ n ∧ n ≤ most
  | .mk cls As cs says Ap cp parts, deep, most, n, h => by
    unfold fitsI at h
    split at h
    · cases h
    · split at h
      · cases h
      · split at h
        · exact fitsL_bd g _ parts deep most 1 n (by omega) (by omega) h
        · cases h
theorem fitsL_bd (g : List (ByteArray × ClassV)) (cp : List ByteArray) : ∀ (l : List ItemV) (deep most many n : Int), 1 ≤ many → many ≤ most → fitsL g cp l deep most many = some n → 1 ≤ n ∧ n ≤ most
  | [], deep, most, many, n, h1, h2, h => by
    unfold fitsL at h
    injection h with h
    omega
  | p :: l, deep, most, many, n, h1, h2, h => by
    unfold fitsL at h
    split at h
    · split at h
      · cases h
      · rename_i m hm
        have := fitsI_bd g p _ _ m hm
        exact fitsL_bd g cp l deep most (many + m) n (by omega) (by omega) h
    · cases h
end
def fitsT (o : Option ClassV) (ns np : Nat) (deep most : Int) : Bool := ((((!(o.isSome) || decide (3 < deep)) || decide (most < 1)) || ((ns : Int) != ((o.getD zC).traits.length : Int))) || decide ((o.getD zC).most < (np : Int)))
theorem fitsT_none {o : Option ClassV} {ns np : Nat} {deep most : Int} (h : fitsT o ns np deep most = true) : o = none ∨ ∃ c, o = some c ∧ (3 < deep ∨ most < 1 ∨ ns ≠ c.traits.length ∨ c.most < (np : Int)) := by
  cases o with
  | none => exact .inl rfl
  | some c =>
    refine .inr ⟨c, rfl, ?_⟩
    simp only [fitsT, Option.isSome_some, Option.getD_some, Bool.not_true, Bool.false_or, Bool.or_eq_true, decide_eq_true_eq, bne_iff_ne, ne_eq] at h
    omega
theorem fitsT_some {o : Option ClassV} {ns np : Nat} {deep most : Int} (h : fitsT o ns np deep most = false) : ∃ c, o = some c ∧ ¬ (3 < deep ∨ most < 1 ∨ ns ≠ c.traits.length ∨ c.most < (np : Int)) := by
  cases o with
  | none => simp [fitsT] at h
  | some c =>
    refine ⟨c, rfl, ?_⟩
    simp only [fitsT, Option.isSome_some, Option.getD_some, Bool.not_true, Bool.false_or, Bool.or_eq_false_iff, decide_eq_false_iff_not, bne_eq_false_iff_eq] at h
    omega
theorem fitsI_none {g : List (ByteArray × ClassV)} {x : ItemV} {deep most : Int} (h : fitsT (getL g x.cls) x.says.length x.parts.length deep most = true) : fitsI g x deep most = none := by
  have h1 := fitsT_none h
  obtain ⟨cls, As, cs, says, Ap, cp, parts⟩ := x
  unfold fitsI
  simp only [ItemV.cls, ItemV.says, ItemV.parts] at h1
  rcases h1 with h1 | ⟨c, h1, h2⟩
  · rw [h1]
  · rw [h1]; simp only; rw [if_pos h2]
theorem fitsI_some {g : List (ByteArray × ClassV)} {x : ItemV} {deep most : Int} (h : fitsT (getL g x.cls) x.says.length x.parts.length deep most = false) :
    ∃ c, getL g x.cls = some c ∧ deep ≤ 3 ∧ 1 ≤ most ∧ x.says.length = c.traits.length ∧ fitsI g x deep most = if saysOk c.traits x.says then fitsL g c.parts x.parts deep most 1 else none := by
  obtain ⟨c, h1, h2⟩ := fitsT_some h
  obtain ⟨cls, As, cs, says, Ap, cp, parts⟩ := x
  simp only [ItemV.cls, ItemV.says, ItemV.parts] at h1 h2 ⊢
  refine ⟨c, h1, by omega, by omega, by omega, ?_⟩
  unfold fitsI
  rw [h1]
  simp only
  rw [if_neg h2]
  rfl
theorem fitsL_drop (g : List (ByteArray × ClassV)) (cp : List ByteArray) (l : List ItemV) (k : Nat) (p : ItemV) (deep most many : Int) (h : l[k]? = some p) :
    fitsL g cp (l.drop k) deep most many = if hasW cp p.cls then (match fitsI g p (deep + 1) (most - many) with | none => none | some n => fitsL g cp (l.drop (k + 1)) deep most (many + n)) else none := by
  obtain ⟨h1, h2⟩ := List.getElem?_eq_some_iff.1 h
  rw [List.drop_eq_getElem_cons h1, h2, fitsL]
theorem getL_mem {g : List (ByteArray × ClassV)} {s : ByteArray} {c : ClassV} (h : getL g s = some c) : ∃ p ∈ g, p.2 = c := by
  induction g with
  | nil => cases h
  | cons p g ih =>
    rw [getL] at h
    split at h
    · injection h with h; exact ⟨p, by simp, h⟩
    · obtain ⟨q, hq, he⟩ := ih h; exact ⟨q, by simp [hq], he⟩
theorem putL_mem {m : List (ByteArray × ClassV)} {k : ByteArray} {c : ClassV} {p : ByteArray × ClassV} (h : p ∈ putL m k c) : p ∈ m ∨ p.2 = c := by
  induction m with
  | nil => simp only [putL, List.mem_singleton] at h; exact .inr (by rw [h])
  | cons q m ih =>
    rw [putL] at h
    split at h
    · rcases List.mem_cons.1 h with h | h
      · exact .inr (by rw [h])
      · exact .inl (List.mem_cons_of_mem _ h)
    · rcases List.mem_cons.1 h with h | h
      · exact .inl (by rw [h]; exact List.mem_cons_self ..)
      · rcases ih h with h | h
        · exact .inl (List.mem_cons_of_mem _ h)
        · exact .inr h
theorem putAll_mem (l : List ClassV) : ∀ (m : List (ByteArray × ClassV)) (p : ByteArray × ClassV), p ∈ putAll m l → p ∈ m ∨ p.2 ∈ l := by
  induction l with
  | nil => intro m p h; exact .inl h
  | cons c l ih =>
    intro m p h
    rcases ih _ p h with h | h
    · rcases putL_mem h with h | h
      · exact .inl h
      · exact .inr (by rw [h]; exact List.mem_cons_self ..)
    · exact .inr (List.mem_cons_of_mem _ h)
theorem gramM_mem {l : List ClassV} {p : ByteArray × ClassV} (h : p ∈ gramM l) : p.2 ∈ l := by
  rcases putAll_mem l [] p h with h | h
  · cases h
  · exact h
def itemOk (l : List ClassV) (x : ItemV) : Bool := (fitsI (gramM l) x 1 24).isSome
def askIOk (l : List ClassV) (xs : List ItemV) : Bool := gramOk l && xs.all (itemOk l)
def askIE (l : List ClassV) (xs : List ItemV) : Int := if gramOk l then (if xs.all (itemOk l) then 0 else 11) else 10
end Go.Proofs.YtlfbghkcfmcnlaaGreatDoor
namespace Go.Proofs.YtlfbghkcfmcnlaaGreatDoor
open Go.Sx Go.RowKit

abbrev bls (us : List Bool) : List Value := us.map (fun x => Value.bool x)
theorem bls_set (us : List Bool) (k : Nat) (v : Bool) : (bls us).set k (.bool v) = bls (us.set k v) := (List.map_set).symm
theorem bls_get {us : List Bool} {k : Nat} {u : Bool} (h : us[k]? = some u) : (bls us)[k]? = some (.bool u) := by rw [List.getElem?_map, h]; rfl
theorem bls_len (us : List Bool) : (bls us).length = us.length := List.length_map ..
/-- one part's turn: the others that are left are tried, one after the other; 'f': the parts behind it -/
def scanA (f : List Bool → Bool × List Bool) : List Bool → Nat → List Bool → Bool × List Bool
  | [], _, us => (false, us)
  | c :: cs, k, us => if us.getD k false || !c then scanA f cs (k + 1) us else if (f (us.set k true)).1 then (true, (f (us.set k true)).2) else scanA f cs (k + 1) ((f (us.set k true)).2.set k false)
def asg : List (List Bool) → List Bool → Bool × List Bool
  | [], us => (true, us)
  | row :: rest, us => scanA (fun u => asg rest u) row 0 us
theorem scanA_len (f : List Bool → Bool × List Bool) (hf : ∀ u, (f u).2.length = u.length) : ∀ (cs : List Bool) (k : Nat) (us : List Bool), (scanA f cs k us).2.length = us.length
  | [], _, _ => rfl
  | c :: cs, k, us => by
    rw [scanA]
    split
    · exact scanA_len f hf cs _ _
    · split
      · rw [hf]; simp
      · rw [scanA_len f hf cs _ _]; simp [hf]
theorem asg_len : ∀ (rows : List (List Bool)) (us : List Bool), (asg rows us).2.length = us.length
  | [], _ => rfl
  | _ :: rest, us => by rw [asg]; exact scanA_len _ (asg_len rest) _ _ _
theorem scanA_drop (f : List Bool → Bool × List Bool) (row : List Bool) (k : Nat) (c u : Bool) (us : List Bool) (h : row[k]? = some c) (hu : us[k]? = some u) :
    scanA f (row.drop k) k us = if u || !c then scanA f (row.drop (k + 1)) (k + 1) us else if (f (us.set k true)).1 then (true, (f (us.set k true)).2) else scanA f (row.drop (k + 1)) (k + 1) ((f (us.set k true)).2.set k false) := by
  obtain ⟨h1, h2⟩ := List.getElem?_eq_some_iff.1 h
  rw [List.drop_eq_getElem_cons h1, h2, scanA, List.getD_eq_getElem?_getD, hu]; rfl
def saysCov : List ByteArray → List ByteArray → Bool
  | s :: ss, t :: ts => !((!(s == ⟨#[]⟩)) && !(s == t)) && saysCov ss ts
  | _, _ => true
theorem saysCov_drop (ss ts : List ByteArray) (k : Nat) (s t : ByteArray) (hs : ss[k]? = some s) (ht : ts[k]? = some t) : saysCov (ss.drop k) (ts.drop k) = (!((!(s == ⟨#[]⟩)) && !(s == t)) && saysCov (ss.drop (k + 1)) (ts.drop (k + 1))) := by
  obtain ⟨h1, h2⟩ := List.getElem?_eq_some_iff.1 hs
  obtain ⟨h3, h4⟩ := List.getElem?_eq_some_iff.1 ht
  rw [List.drop_eq_getElem_cons h1, h2, List.drop_eq_getElem_cons h3, h4, saysCov]
mutual
def covI : ItemV → ItemV → Bool
  | .mk cls _ _ says _ _ parts, b => decide (cls = b.cls) && (saysCov says b.says && (asg (covRows parts b.parts) (List.replicate b.parts.length false)).1)
def covRows : List ItemV → List ItemV → List (List Bool)
  | [], _ => []
  | p :: l, bs => bs.map (fun q => covI p q) :: covRows l bs
end
theorem covRows_drop (l bs : List ItemV) (i : Nat) (p : ItemV) (h : l[i]? = some p) : covRows (l.drop i) bs = bs.map (fun q => covI p q) :: covRows (l.drop (i + 1)) bs := by
  obtain ⟨h1, h2⟩ := List.getElem?_eq_some_iff.1 h
  rw [List.drop_eq_getElem_cons h1, h2, covRows]
/-- the classes of an item and of its parts are known, and as much is said of each as its class has traits -/
inductive OkG (g : List (ByteArray × ClassV)) : ItemV → Prop
  | mk {x : ItemV} (h : ∃ c, getL g x.cls = some c ∧ x.says.length = c.traits.length) (hn : x.parts.length ≤ 24) (hr : ∀ p ∈ x.parts, OkG g p) : OkG g x
/-- what the search has at hand -/
structure FindW (w0 w : World) (a b : ItemV) (xa xb xu x7 x8 : Nat) : Prop where
  hg : Grow w0 w
  hu : w0.heap.size ≤ xu
  ha : w.heap[xa]? = some (cellsB 26 [.string a.cls, .slice a.As a.says.length a.cs, .slice a.Ap a.parts.length a.cp])
  hb : w.heap[xb]? = some (cellsB 26 [.string b.cls, .slice b.As b.says.length b.cs, .slice b.Ap b.parts.length b.cp])
  h7 : w.heap[x7]? = some (cellsB 147 [.slice (some ⟨xu, 0, none⟩) b.parts.length b.parts.length])
  h8 : w.heap[x8]? = some (cellsB 109 [.func (.func 95) #[] #[.pointer (some ⟨xa, 0, none⟩), .pointer (some ⟨xb, 0, none⟩), .pointer (some ⟨x7, 0, none⟩), .pointer (some ⟨x8, 0, none⟩)]])
  na : xa ≠ xu
  nb : xb ≠ xu
  n7 : x7 ≠ xu
  n8 : x8 ≠ xu
theorem OkG.says {g : List (ByteArray × ClassV)} {a b : ItemV} (ha : OkG g a) (hb : OkG g b) (h : a.cls = b.cls) : a.says.length = b.says.length := by
  cases ha with
  | mk h1 _ _ =>
    cases hb with
    | mk h2 _ _ =>
      obtain ⟨c, h3, h4⟩ := h1
      obtain ⟨d, h5, h6⟩ := h2
      rw [h, h5] at h3
      injection h3 with h3
      rw [h4, h6, h3]
theorem OkG.few {g : List (ByteArray × ClassV)} {a : ItemV} (ha : OkG g a) : a.parts.length ≤ 24 := by cases ha; assumption
theorem OkG.pt {g : List (ByteArray × ClassV)} {a : ItemV} (ha : OkG g a) : ∀ p ∈ a.parts, OkG g p := by cases ha; assumption
theorem covI_eq (a b : ItemV) : covI a b = (decide (a.cls = b.cls) && (saysCov a.says b.says && (asg (covRows a.parts b.parts) (List.replicate b.parts.length false)).1)) := by
  obtain ⟨cls, As, cs, says, Ap, cp, parts⟩ := a
  unfold covI
  rfl
theorem blk_ne {w : World} {x y e f : Nat} {cs ds : List Value} (h1 : w.heap[x]? = some (cellsB e cs)) (h2 : w.heap[y]? = some (cellsB f ds)) (hef : e ≠ f) : x ≠ y := by
  rintro rfl
  rw [h1] at h2
  injection h2 with h2
  injection h2 with _ h3
  exact hef h3
mutual
theorem fitsI_ok (g : List (ByteArray × ClassV)) (hm : ∀ p ∈ g, p.2.most ≤ 6) : ∀ (x : ItemV) (deep most n : Int), fitsI g x deep most = some n → OkG g x
  | .mk cls As cs says Ap cp parts, deep, most, n, h => by
    unfold fitsI at h
    split at h
    · cases h
    · rename_i c hc
      split at h
      · cases h
      · rename_i hn
        split at h
        · obtain ⟨p, hp, he⟩ := getL_mem hc
          have h6 := hm p hp
          rw [he] at h6
          exact .mk ⟨c, hc, (by show says.length = _; omega)⟩ (by show parts.length ≤ 24; omega) (fitsL_ok g hm _ parts deep most 1 n h)
        · cases h
theorem fitsL_ok (g : List (ByteArray × ClassV)) (hm : ∀ p ∈ g, p.2.most ≤ 6) (cp : List ByteArray) : ∀ (l : List ItemV) (deep most many n : Int), fitsL g cp l deep most many = some n → ∀ p ∈ l, OkG g p
  | [], _, _, _, _, _ => fun p hp => by cases hp
  | q :: l, deep, most, many, n, h => by
    unfold fitsL at h
    split at h
    · split at h
      · cases h
      · rename_i m hm2
        intro p hp
        rcases List.mem_cons.1 hp with hp | hp
        · rw [hp]; exact fitsI_ok g hm q _ _ m hm2
        · exact fitsL_ok g hm cp l deep most (many + m) n h p hp
    · cases h
end
theorem gram_most {l : List ClassV} (h : gramOk l = true) : ∀ p ∈ gramM l, p.2.most ≤ 6 := by
  intro p hp
  have h1 := gramM_mem hp
  simp only [gramOk, Bool.and_eq_true, List.all_eq_true] at h
  have h2 := h.2.2 p.2 h1
  simp only [classOk, Bool.and_eq_true] at h2
  have h3 := h2.1
  unfold class1 at h3
  simp only [Bool.not_eq_true', Bool.or_eq_false_iff, Bool.not_eq_false', Bool.and_eq_true, decide_eq_true_eq] at h3
  omega
theorem askIE_no {l : List ClassV} {xs : List ItemV} (h : (askIE l xs != 0) = true) : askIOk l xs = false := by
  unfold askIE at h
  unfold askIOk
  cases h1 : gramOk l <;> cases h2 : xs.all (itemOk l) <;> simp [h1, h2] at h ⊢
theorem askIE_ok {l : List ClassV} {xs : List ItemV} (h : (askIE l xs != 0) = false) : askIOk l xs = true := by
  unfold askIE at h
  unfold askIOk
  cases h1 : gramOk l <;> cases h2 : xs.all (itemOk l) <;> simp [h1, h2] at h ⊢
theorem ask_okG {l : List ClassV} {xs : List ItemV} (h : askIOk l xs = true) : ∀ x ∈ xs, OkG (gramM l) x := by
  intro x hx
  simp only [askIOk, Bool.and_eq_true, List.all_eq_true] at h
  have h1 := h.2 x hx
  unfold itemOk at h1
  obtain ⟨n, hn⟩ := Option.isSome_iff_exists.1 h1
  exact fitsI_ok _ (gram_most h.1) x 1 24 n hn
def CovT (l : List ClassV) (a b : ItemV) : Bool := askIOk l [a, b] && covI a b
end Go.Proofs.YtlfbghkcfmcnlaaGreatDoor
namespace Go.Proofs.YtlfbghkcfmcnlaaGreatDoor
open Go.Sx Go.RowKit

/-- a description, wherever it lies -/
inductive IT where
  | mk (cls : ByteArray) (says : List ByteArray) (parts : List IT)
namespace IT
def cls : IT → ByteArray | mk c _ _ => c
def says : IT → List ByteArray | mk _ s _ => s
def parts : IT → List IT | mk _ _ p => p
end IT
instance : Inhabited IT := ⟨.mk ⟨#[]⟩ [] []⟩
mutual
def ItemV.pl : ItemV → IT
  | .mk cls _ _ says _ _ parts => .mk cls says (plL parts)
def plL : List ItemV → List IT
  | [] => []
  | p :: l => p.pl :: plL l
end
theorem plL_map : ∀ l : List ItemV, plL l = l.map ItemV.pl
  | [] => rfl
  | p :: l => by rw [plL, plL_map l]; rfl
theorem pl_eq (x : ItemV) : x.pl = .mk x.cls x.says (x.parts.map ItemV.pl) := by
  obtain ⟨cls, As, cs, says, Ap, cp, parts⟩ := x
  rw [ItemV.pl, plL_map]; rfl
theorem pl_cls (x : ItemV) : x.pl.cls = x.cls := by rw [pl_eq]; rfl
theorem pl_says (x : ItemV) : x.pl.says = x.says := by rw [pl_eq]; rfl
theorem pl_parts (x : ItemV) : x.pl.parts = x.parts.map ItemV.pl := by rw [pl_eq]; rfl

theorem ow_shape {e c sz : Nat} {α : Type} {enc : α → List Value} {A : Option Addr} {xs : List α} {w : World} (h : (ow e sz enc A c xs).P w) (hne : xs ≠ []) : ∃ g, A = some ⟨g, 0, none⟩ ∧ xs.length ≤ c ∧ g < w.heap.size := by
  have hP : w.ownsRow 0 e sz (.slice A xs.length c) xs.length (xs.flatMap enc) := h
  rcases hP.2 with ⟨h2, h3⟩ | ⟨g, cap, cur, hv, h3, h4, h5, _⟩
  · exact absurd (List.eq_nil_of_length_eq_zero h3) hne
  · injection hv with hA _ hc
    exact ⟨g, hA, by omega, (Array.getElem?_eq_some_iff.1 h4).1⟩
theorem ow_lt {e c sz : Nat} {α : Type} {enc : α → List Value} {A : Option Addr} {xs : List α} {w : World} (h : (ow e sz enc A c xs).P w) (hne : xs ≠ []) : ∀ b, (ow e sz enc A c xs).fp b → b < w.heap.size := by
  obtain ⟨g, rfl, _, hg⟩ := ow_shape h hne
  intro b hb
  have : some g = some b := hb
  injection this with this
  omega

/-! ### Tokens -/
abbrev tOpen : ByteArray := ⟨#[40]⟩
abbrev tClose : ByteArray := ⟨#[41]⟩
abbrev tSemi : ByteArray := ⟨#[59]⟩
abbrev tEq : ByteArray := ⟨#[61]⟩
abbrev tBl : ByteArray := ⟨#[32]⟩
def saidTok : List TraitV → List ByteArray → List ByteArray
  | t :: ts, s :: ss => if s == ⟨#[]⟩ then saidTok ts ss else (t.name ++ tEq ++ s) :: saidTok ts ss
  | _, _ => []
theorem saidTok_drop (ts : List TraitV) (ss : List ByteArray) (k : Nat) (t : TraitV) (s : ByteArray) (ht : ts[k]? = some t) (hs : ss[k]? = some s) :
    saidTok (ts.drop k) (ss.drop k) = if s == ⟨#[]⟩ then saidTok (ts.drop (k + 1)) (ss.drop (k + 1)) else (t.name ++ tEq ++ s) :: saidTok (ts.drop (k + 1)) (ss.drop (k + 1)) := by
  obtain ⟨h1, h2⟩ := List.getElem?_eq_some_iff.1 ht
  obtain ⟨h3, h4⟩ := List.getElem?_eq_some_iff.1 hs
  rw [List.drop_eq_getElem_cons h1, h2, List.drop_eq_getElem_cons h3, h4, saidTok]
theorem saidTok_len : ∀ (ts : List TraitV) (ss : List ByteArray), (saidTok ts ss).length ≤ ts.length
  | [], _ => by simp [saidTok]
  | _ :: _, [] => by simp [saidTok]
  | t :: ts, s :: ss => by
    have := saidTok_len ts ss
    rw [saidTok]; split
    · simp only [List.length_cons]; omega
    · simp only [List.length_cons]; omega
abbrev traitsOf (g : List (ByteArray × ClassV)) (s : ByteArray) : List TraitV := ((getL g s).getD zC).traits
mutual
def tokT (g : List (ByteArray × ClassV)) : IT → List ByteArray
  | .mk cls says parts => (cls :: saidTok (traitsOf g cls) says) ++ (tokP g true parts ++ (if parts.length = 0 then [] else [tClose]))
def tokP (g : List (ByteArray × ClassV)) : Bool → List IT → List ByteArray
  | _, [] => []
  | b, p :: l => (if b then tOpen else tSemi) :: (tokT g p ++ tokP g false l)
end
theorem tokT_eq (g : List (ByteArray × ClassV)) (x : IT) : tokT g x = (x.cls :: saidTok (traitsOf g x.cls) x.says) ++ (tokP g true x.parts ++ (if x.parts.length = 0 then [] else [tClose])) := by
  obtain ⟨cls, says, parts⟩ := x; rw [tokT]; rfl
theorem tokP_drop (g : List (ByteArray × ClassV)) (l : List IT) (k : Nat) (p : IT) (h : l[k]? = some p) : tokP g (decide (k = 0)) (l.drop k) = (if k = 0 then tOpen else tSemi) :: (tokT g p ++ tokP g (decide (k + 1 = 0)) (l.drop (k + 1))) := by
  obtain ⟨h1, h2⟩ := List.getElem?_eq_some_iff.1 h
  rw [List.drop_eq_getElem_cons h1, h2, tokP]
  simp
def jn (xs : List ByteArray) : ByteArray := ⟨(([32] : List UInt8).intercalate (xs.map (fun s => s.data.toList))).toArray⟩
def txtT (g : List (ByteArray × ClassV)) (x : IT) : ByteArray := jn (tokT g x)

/-! ### Counting -/
def saidN (ss : List ByteArray) : Int := (ss.map (fun s => if s == (⟨#[]⟩ : ByteArray) then (0 : Int) else 1)).sum
mutual
def cntT : IT → Int
  | .mk _ _ parts => 1 + cntL parts
def cntL : List IT → Int
  | [] => 0
  | p :: l => cntT p + cntL l
end
mutual
def sdT : IT → Int
  | .mk _ says parts => saidN says + sdL parts
def sdL : List IT → Int
  | [] => 0
  | p :: l => sdT p + sdL l
end
mutual
/-- all items of a description, in the order of the text -/
def ItemV.all : ItemV → List ItemV
  | .mk cls As cs says Ap cp parts => .mk cls As cs says Ap cp parts :: allL parts
def allL : List ItemV → List ItemV
  | [] => []
  | p :: l => p.all ++ allL l
end
theorem all_eq (x : ItemV) : x.all = x :: allL x.parts := by
  obtain ⟨cls, As, cs, says, Ap, cp, parts⟩ := x; rw [ItemV.all]; rfl
theorem cntT_eq (x : IT) : cntT x = 1 + cntL x.parts := by obtain ⟨_, _, _⟩ := x; rw [cntT]; rfl
mutual
theorem all_len : ∀ x : ItemV, (x.all.length : Int) = cntT x.pl
  | .mk cls As cs says Ap cp parts => by
    rw [ItemV.all, ItemV.pl, cntT, List.length_cons, ← allL_len parts]; omega
theorem allL_len : ∀ l : List ItemV, ((allL l).length : Int) = cntL (plL l)
  | [] => rfl
  | p :: l => by rw [allL, plL, cntL, List.length_append, ← all_len p, ← allL_len l]; omega
end
def sdAll (l : List ItemV) : Int := (l.map (fun x => saidN x.says)).sum
theorem sdAll_append (a b : List ItemV) : sdAll (a ++ b) = sdAll a + sdAll b := by
  induction a with
  | nil => simp [sdAll]
  | cons x a ih => unfold sdAll at ih ⊢; rw [List.cons_append, List.map_cons, List.sum_cons, ih, List.map_cons, List.sum_cons]; omega
mutual
theorem all_said : ∀ x : ItemV, sdAll x.all = sdT x.pl
  | .mk cls As cs says Ap cp parts => by
    rw [ItemV.all, ItemV.pl, sdT, ← allL_said parts]; rfl
theorem allL_said : ∀ l : List ItemV, sdAll (allL l) = sdL (plL l)
  | [] => rfl
  | p :: l => by rw [allL, plL, sdL, sdAll_append, all_said p, allL_said l]
end

/-! ### The sorted form -/
section
variable {α : Type} (lt : α → α → Bool)
/-- an item goes to the left as long as it comes before the one on its left -/
def insAt (P : List α) (x : α) : Nat → List α
  | 0 => x :: P
  | j + 1 => match P[j]? with
    | some y => if lt x y then insAt P x j else P.take (j + 1) ++ x :: P.drop (j + 1)
    | none => P.take (j + 1) ++ x :: P.drop (j + 1)
def isort : List α → List α → List α
  | P, [] => P
  | P, x :: l => isort (insAt lt P x P.length) l
theorem insAt_len (P : List α) (x : α) : ∀ j, j ≤ P.length → (insAt lt P x j).length = P.length + 1
  | 0, _ => rfl
  | j + 1, h => by
    have h1 : P[j]? = some P[j] := List.getElem?_eq_getElem (by omega)
    rw [insAt, h1]
    simp only
    split
    · exact insAt_len P x j (by omega)
    · simp; omega
theorem insAt_mem (P : List α) (x y : α) : ∀ j, j ≤ P.length → (y ∈ insAt lt P x j ↔ y = x ∨ y ∈ P)
  | 0, _ => by simp [insAt]
  | j + 1, h => by
    have h1 : P[j]? = some P[j] := List.getElem?_eq_getElem (by omega)
    rw [insAt, h1]
    simp only
    split
    · exact insAt_mem P x y j (by omega)
    · rw [List.mem_append, List.mem_cons]
      have : y ∈ P ↔ y ∈ P.take (j + 1) ∨ y ∈ P.drop (j + 1) := by rw [← List.mem_append, List.take_append_drop]
      rw [this]
      constructor
      · rintro (h | h | h)
        · exact .inr (.inl h)
        · exact .inl h
        · exact .inr (.inr h)
      · rintro (h | h | h)
        · exact .inr (.inl h)
        · exact .inl h
        · exact .inr (.inr h)
theorem isort_len : ∀ (l P : List α), (isort lt P l).length = P.length + l.length
  | [], P => by simp [isort]
  | x :: l, P => by rw [isort, isort_len l, insAt_len lt P x _ (Nat.le_refl _), List.length_cons]; omega
theorem isort_mem : ∀ (l P : List α) (y : α), y ∈ isort lt P l ↔ y ∈ P ∨ y ∈ l
  | [], P, y => by simp [isort]
  | x :: l, P, y => by
    rw [isort, isort_mem l, insAt_mem lt P x y _ (Nat.le_refl _), List.mem_cons]
    constructor
    · rintro ((h | h) | h)
      · exact .inr (.inl h)
      · exact .inl h
      · exact .inr (.inr h)
    · rintro (h | h | h)
      · exact .inl (.inr h)
      · exact .inl (.inl h)
      · exact .inr h
end
theorem insAt_map {α β : Type} (f : α → β) (lt : β → β → Bool) (P : List α) (x : α) : ∀ j, (insAt (fun a b => lt (f a) (f b)) P x j).map f = insAt lt (P.map f) (f x) j
  | 0 => rfl
  | j + 1 => by
    rw [insAt, insAt, List.getElem?_map]
    cases h : P[j]? with
    | none => simp
    | some y =>
      simp only [Option.map_some]
      split
      · exact insAt_map f lt P x j
      · simp
theorem isort_map {α β : Type} (f : α → β) (lt : β → β → Bool) : ∀ (l P : List α), (isort (fun a b => lt (f a) (f b)) P l).map f = isort lt (P.map f) (l.map f)
  | [], P => rfl
  | x :: l, P => by rw [isort, isort_map f lt l, insAt_map, List.map_cons, isort, List.length_map]
def ltT (g : List (ByteArray × ClassV)) (a b : IT) : Bool := ltS (txtT g a) (txtT g b)
mutual
def sortT (g : List (ByteArray × ClassV)) : IT → IT
  | .mk cls says parts => .mk cls says (isort (ltT g) [] (sortL g parts))
def sortL (g : List (ByteArray × ClassV)) : List IT → List IT
  | [] => []
  | p :: l => sortT g p :: sortL g l
end
theorem sortL_map (g : List (ByteArray × ClassV)) : ∀ l : List IT, sortL g l = l.map (sortT g)
  | [] => rfl
  | p :: l => by rw [sortL, sortL_map g l]; rfl
theorem sortT_eq (g : List (ByteArray × ClassV)) (x : IT) : sortT g x = .mk x.cls x.says (isort (ltT g) [] (x.parts.map (sortT g))) := by
  obtain ⟨cls, says, parts⟩ := x; rw [sortT, sortL_map]; rfl

/-! ### What a description that fits has -/
inductive OkT (g : List (ByteArray × ClassV)) : IT → Prop
  | mk {x : IT} (h : ∃ c, getL g x.cls = some c ∧ x.says.length = c.traits.length ∧ c.traits.length ≤ 8 ∧ ∀ t ∈ c.traits, t.name.size ≤ 16) (hc : x.cls.size ≤ 16) (hs : ∀ s ∈ x.says, s.size ≤ 16) (hn : x.parts.length ≤ 6) (hr : ∀ p ∈ x.parts, OkT g p) : OkT g x
def PrnT (l : List ClassV) (x : ItemV) : ByteArray := bif askIOk l [x] then txtT (gramM l) x.pl else ⟨#[]⟩
def CntI (l : List ClassV) (x : ItemV) : Int := bif askIOk l [x] then cntT x.pl else 0
def CntS (l : List ClassV) (x : ItemV) : Int := bif askIOk l [x] then sdT x.pl else 0
abbrev zIT : IT := .mk ⟨#[]⟩ [] []
def SrtT (l : List ClassV) (x : ItemV) : IT := bif askIOk l [x] then sortT (gramM l) x.pl else zIT
end Go.Proofs.YtlfbghkcfmcnlaaGreatDoor
namespace Go.Proofs.YtlfbghkcfmcnlaaGreatDoor
open Go.Sx Go.RowKit

theorem isW_size {s : ByteArray} (h : isW s = true) : s.size ≤ 16 := by
  simp only [isW, Bool.and_eq_true, decide_eq_true_eq] at h; omega
theorem wordsG_all : ∀ (pre l : List ByteArray), wordsG pre l = true → ∀ s ∈ l, isW s = true
  | _, [], _ => by simp
  | pre, s :: l, h => by
    simp only [wordsG, Bool.and_eq_true] at h
    intro t ht
    rcases List.mem_cons.1 ht with rfl | ht
    · exact h.1.1
    · exact wordsG_all _ l h.2 t ht
theorem words_all {l : List ByteArray} (h : wordsB l = true) : ∀ s ∈ l, isW s = true := wordsG_all [] l h
theorem hasW_mem {l : List ByteArray} {s : ByteArray} (h : hasW l s = true) : s ∈ l := by
  simp only [hasW, List.any_eq_true, decide_eq_true_eq] at h
  obtain ⟨q, hq, rfl⟩ := h; exact hq
theorem putL_key {m : List (ByteArray × ClassV)} {k : ByteArray} {c : ClassV} (hm : ∀ p ∈ m, p.1 = p.2.name) (hk : k = c.name) : ∀ p ∈ putL m k c, p.1 = p.2.name := by
  induction m with
  | nil => intro p hp; simp only [putL, List.mem_singleton] at hp; rw [hp]; exact hk
  | cons q m ih =>
    intro p hp
    rw [putL] at hp
    split at hp
    · rcases List.mem_cons.1 hp with h | h
      · rw [h]; exact hk
      · exact hm p (List.mem_cons_of_mem _ h)
    · rcases List.mem_cons.1 hp with h | h
      · rw [h]; exact hm q (List.mem_cons_self ..)
      · exact ih (fun p hp => hm p (List.mem_cons_of_mem _ hp)) p h
theorem putAll_key : ∀ (l : List ClassV) (m : List (ByteArray × ClassV)), (∀ p ∈ m, p.1 = p.2.name) → ∀ p ∈ putAll m l, p.1 = p.2.name
  | [], _, hm => hm
  | _ :: l, _, hm => putAll_key l _ (putL_key hm rfl)
theorem getL_mem' {g : List (ByteArray × ClassV)} {s : ByteArray} {c : ClassV} (h : getL g s = some c) : (s, c) ∈ g := by
  induction g with
  | nil => cases h
  | cons p g ih =>
    rw [getL] at h
    split at h
    · rename_i h1
      injection h with h
      rw [← h, ← h1]; exact List.mem_cons_self ..
    · exact List.mem_cons_of_mem _ (ih h)
theorem gram_get {l : List ClassV} {s : ByteArray} {c : ClassV} (h : getL (gramM l) s = some c) : c ∈ l ∧ c.name = s := by
  have h1 := getL_mem' h
  exact ⟨gramM_mem h1, (putAll_key l [] (by simp) _ h1).symm⟩
/-- what a grammar that is right has -/
structure ClsOk (c : ClassV) : Prop where
  name : isW c.name = true
  few : c.traits.length ≤ 8
  tn : ∀ t ∈ c.traits, isW t.name = true
  tv : ∀ t ∈ c.traits, ∀ s ∈ t.vals, isW s = true
  most : 0 ≤ c.most ∧ c.most ≤ 6
theorem gram_cls {l : List ClassV} (h : gramOk l = true) : ∀ c ∈ l, ClsOk c := by
  intro c hc
  simp only [gramOk, Bool.and_eq_true, List.all_eq_true] at h
  have h1 := h.2.2 c hc
  have h2 := words_all h.2.1 c.name (List.mem_map.2 ⟨c, hc, rfl⟩)
  simp only [classOk, Bool.and_eq_true, List.all_eq_true] at h1
  have h3 := class1_tr h1.1
  refine ⟨h2, by omega, fun t ht => words_all h1.2.2.2 t.name (List.mem_map.2 ⟨t, ht, rfl⟩), fun t ht s hs => ?_, ?_⟩
  · have h4 := h1.2.2.1 t ht
    unfold traitOk at h4
    simp only [Bool.not_eq_true', Bool.or_eq_false_iff, Bool.not_eq_false'] at h4
    exact words_all h4.2 s hs
  · have h4 := h1.1
    unfold class1 at h4
    simp only [Bool.not_eq_true', Bool.or_eq_false_iff, Bool.not_eq_false', Bool.and_eq_true, decide_eq_true_eq] at h4
    omega
theorem says_sz : ∀ (ts : List TraitV) (ss : List ByteArray), (∀ t ∈ ts, ∀ s ∈ t.vals, isW s = true) → ss.length ≤ ts.length → saysOk ts ss = true → ∀ s ∈ ss, s = ⟨#[]⟩ ∨ isW s = true
  | _, [], _, _, _ => by simp
  | [], _ :: _, _, h, _ => by simp at h
  | t :: ts, s :: ss, hv, hl, h => by
    simp only [saysOk, Bool.and_eq_true] at h
    intro u hu
    rcases List.mem_cons.1 hu with rfl | hu
    · have h1 := h.1
      unfold saysOne at h1
      simp only [Bool.not_eq_true', Bool.or_eq_false_iff, Bool.and_eq_false_iff, Bool.not_eq_false'] at h1
      rcases h1.2 with h2 | h2
      · exact .inl (bytes_eq (by simpa using h2))
      · exact .inr (hv t (List.mem_cons_self ..) u (hasW_mem h2))
    · exact says_sz ts ss (fun t ht => hv t (List.mem_cons_of_mem _ ht)) (by simpa using hl) h.2 u hu
theorem sz16 {s : ByteArray} (h : s = ⟨#[]⟩ ∨ isW s = true) : s.size ≤ 16 := by
  rcases h with rfl | h
  · decide
  · exact isW_size h
mutual
theorem fitsI_T {l : List ClassV} (hg : gramOk l = true) : ∀ (x : ItemV) (deep most n : Int), fitsI (gramM l) x deep most = some n → OkT (gramM l) x.pl ∧ n = cntT x.pl
  | .mk cls As cs says Ap cp parts, deep, most, n, h => by
    unfold fitsI at h
    split at h
    · cases h
    · rename_i c hc
      split at h
      · cases h
      · rename_i hn
        split at h
        · rename_i hso
          obtain ⟨hcl, hcn⟩ := gram_get hc
          have hok := gram_cls hg c hcl
          have h2 := fitsL_T hg _ parts deep most 1 n h
          refine ⟨.mk ⟨c, hc, by rw [pl_says]; show says.length = _; omega, hok.few, fun t ht => isW_size (hok.tn t ht)⟩ (by rw [pl_cls]; show cls.size ≤ 16; rw [← hcn]; exact isW_size hok.name) (by rw [pl_says]; exact fun s hs => sz16 (says_sz _ _ hok.tv (by omega) hso s hs)) (by rw [pl_parts, List.length_map]; show parts.length ≤ 6; have := hok.most; omega) (by rw [pl_parts, ← plL_map]; exact h2.1), ?_⟩
          rw [ItemV.pl, cntT]; exact h2.2
        · cases h
theorem fitsL_T {l : List ClassV} (hg : gramOk l = true) (cp : List ByteArray) : ∀ (xs : List ItemV) (deep most many n : Int), fitsL (gramM l) cp xs deep most many = some n → (∀ p ∈ plL xs, OkT (gramM l) p) ∧ n = many + cntL (plL xs)
  | [], _, _, many, n, h => by
    rw [fitsL] at h; injection h with h
    exact ⟨by simp [plL], by rw [plL, cntL]; omega⟩
  | q :: xs, deep, most, many, n, h => by
    unfold fitsL at h
    split at h
    · split at h
      · cases h
      · rename_i m hm2
        have h1 := fitsI_T hg q _ _ m hm2
        have h2 := fitsL_T hg cp xs deep most (many + m) n h
        refine ⟨fun p hp => ?_, by rw [plL, cntL]; omega⟩
        rw [plL] at hp
        rcases List.mem_cons.1 hp with hp | hp
        · rw [hp]; exact h1.1
        · exact h2.1 p hp
    · cases h
end
theorem ask_T {l : List ClassV} {xs : List ItemV} (h : askIOk l xs = true) : ∀ x ∈ xs, OkT (gramM l) x.pl ∧ cntT x.pl ≤ 24 := by
  intro x hx
  simp only [askIOk, Bool.and_eq_true, List.all_eq_true] at h
  have h1 := h.2 x hx
  unfold itemOk at h1
  obtain ⟨n, hn⟩ := Option.isSome_iff_exists.1 h1
  obtain ⟨h2, h3⟩ := fitsI_T h.1 x 1 24 n hn
  have := fitsI_bd _ x 1 24 n hn
  exact ⟨h2, by omega⟩
mutual
theorem cnt_pos : ∀ x : IT, 1 ≤ cntT x
  | .mk _ _ parts => by rw [cntT]; have := cntL_pos parts; omega
theorem cntL_pos : ∀ l : List IT, 0 ≤ cntL l
  | [] => by rw [cntL]; omega
  | p :: l => by rw [cntL]; have := cnt_pos p; have := cntL_pos l; omega
end
theorem cntL_mem : ∀ (l : List IT) (p : IT), p ∈ l → cntT p ≤ cntL l
  | [], p, h => by simp at h
  | q :: l, p, h => by
    rw [cntL]
    rcases List.mem_cons.1 h with rfl | h
    · have := cntL_pos l; omega
    · have := cntL_mem l p h; have := cnt_pos q; omega
theorem OkT.get {g : List (ByteArray × ClassV)} {x : IT} (h : OkT g x) : ∃ c, getL g x.cls = some c ∧ x.says.length = c.traits.length ∧ c.traits.length ≤ 8 ∧ ∀ t ∈ c.traits, t.name.size ≤ 16 := by cases h; assumption
theorem OkT.pt {g : List (ByteArray × ClassV)} {x : IT} (h : OkT g x) : ∀ p ∈ x.parts, OkT g p := by cases h; assumption
theorem OkT.csz {g : List (ByteArray × ClassV)} {x : IT} (h : OkT g x) : x.cls.size ≤ 16 := by cases h; assumption
theorem OkT.ssz {g : List (ByteArray × ClassV)} {x : IT} (h : OkT g x) : ∀ s ∈ x.says, s.size ≤ 16 := by cases h; assumption
theorem OkT.few {g : List (ByteArray × ClassV)} {x : IT} (h : OkT g x) : x.parts.length ≤ 6 := by cases h; assumption
theorem traits8 {g : List (ByteArray × ClassV)} {x : IT} (h : OkT g x) : (traitsOf g x.cls).length ≤ 8 ∧ ∀ t ∈ traitsOf g x.cls, t.name.size ≤ 16 := by
  obtain ⟨c, hc, _, h3, h4⟩ := h.get
  unfold traitsOf; rw [hc]; exact ⟨h3, h4⟩
mutual
theorem tok_len {g : List (ByteArray × ClassV)} : ∀ x : IT, OkT g x → ((tokT g x).length : Int) + 1 ≤ 11 * cntT x
  | .mk cls says parts, h => by
    have h1 := saidTok_len (traitsOf g cls) says
    have h2 := (traits8 h).1
    have h3 := tokP_len true parts h.pt
    simp only [IT.cls] at h2
    rw [tokT, cntT]
    simp only [List.length_append, List.length_cons]
    have h4 : (if parts.length = 0 then ([] : List ByteArray) else [tClose]).length ≤ 1 := by split <;> simp
    omega
theorem tokP_len {g : List (ByteArray × ClassV)} (b : Bool) : ∀ l : List IT, (∀ p ∈ l, OkT g p) → ((tokP g b l).length : Int) ≤ 11 * cntL l
  | [], _ => by rw [tokP, cntL]; simp
  | p :: l, h => by
    have h1 := tok_len p (h p (List.mem_cons_self ..))
    have h2 := tokP_len false l (fun q hq => h q (List.mem_cons_of_mem _ hq))
    rw [tokP, cntL]
    simp only [List.length_cons, List.length_append]
    omega
end
theorem said_sz : ∀ (ts : List TraitV) (ss : List ByteArray), (∀ t ∈ ts, t.name.size ≤ 16) → (∀ s ∈ ss, s.size ≤ 16) → ∀ u ∈ saidTok ts ss, u.size ≤ 33
  | [], _, _, _ => by simp [saidTok]
  | _ :: _, [], _, _ => by simp [saidTok]
  | t :: ts, s :: ss, h1, h2 => by
    intro u hu
    have ih := said_sz ts ss (fun t ht => h1 t (List.mem_cons_of_mem _ ht)) (fun s hs => h2 s (List.mem_cons_of_mem _ hs)) u
    rw [saidTok] at hu
    split at hu
    · exact ih hu
    · rcases List.mem_cons.1 hu with rfl | hu
      · rw [ByteArray.size_append, ByteArray.size_append]
        have a1 := h1 t (List.mem_cons_self ..)
        have a2 := h2 s (List.mem_cons_self ..)
        have a3 : tEq.size = 1 := rfl
        omega
      · exact ih hu
mutual
theorem tok_sz {g : List (ByteArray × ClassV)} : ∀ x : IT, OkT g x → ∀ u ∈ tokT g x, u.size ≤ 33
  | .mk cls says parts, h => by
    intro u hu
    rw [tokT, List.mem_append, List.mem_append, List.mem_cons] at hu
    rcases hu with (rfl | hu) | hu | hu
    · have := h.csz; simp only [IT.cls] at this; omega
    · exact said_sz _ _ (traits8 h).2 h.ssz u hu
    · exact tokP_sz true parts h.pt u hu
    · split at hu
      · simp at hu
      · rw [List.mem_singleton.1 hu]; decide
theorem tokP_sz {g : List (ByteArray × ClassV)} (b : Bool) : ∀ l : List IT, (∀ p ∈ l, OkT g p) → ∀ u ∈ tokP g b l, u.size ≤ 33
  | [], _ => by simp [tokP]
  | p :: l, h => by
    intro u hu
    rw [tokP] at hu
    rcases List.mem_cons.1 hu with rfl | hu
    · split <;> decide
    · rcases List.mem_append.1 hu with hu | hu
      · exact tok_sz p (h p (List.mem_cons_self ..)) u hu
      · exact tokP_sz false l (fun q hq => h q (List.mem_cons_of_mem _ hq)) u hu
end
theorem tok_ne (g : List (ByteArray × ClassV)) (x : IT) : tokT g x ≠ [] := by rw [tokT_eq]; simp
theorem jn_size (xs : List ByteArray) (h : ∀ s ∈ xs, s.size ≤ 33) : (jn xs).size ≤ 34 * xs.length := by
  cases xs with
  | nil => decide
  | cons x r =>
    have h1 : (jn (x :: r)).size = (Lib.join ((x :: r).map (fun s => s.data.toList)) [32]).length := by
      show Array.size _ = _
      simp [Lib.join]
    rw [h1, List.map_cons, Lib.join_length]
    have h2 : ∀ l : List ByteArray, (∀ s ∈ l, s.size ≤ 33) → Lib.lens (l.map (fun s => s.data.toList)) ≤ 33 * l.length := by
      intro l
      induction l with
      | nil => intro _; exact Nat.le_refl _
      | cons y l ih =>
        intro hl
        have h3 := ih (fun s hs => hl s (List.mem_cons_of_mem _ hs))
        have h4 := hl y (List.mem_cons_self ..)
        have h5 : y.data.toList.length = y.size := by simp
        unfold Lib.lens at h3 ⊢
        rw [List.map_cons, List.map_cons, List.sum_cons, List.length_cons, h5]
        omega
    have h3 := h2 (x :: r) h
    rw [List.map_cons] at h3
    simp only [List.length_cons, List.length_map, List.length_nil] at h3 ⊢
    omega
theorem txt_size {g : List (ByteArray × ClassV)} {x : IT} (h : OkT g x) (hc : cntT x ≤ 24) : (txtT g x).size ≤ 10000 := by
  have h1 := jn_size (tokT g x) (tok_sz x h)
  have h2 := tok_len x h
  unfold txtT
  omega
end Go.Proofs.YtlfbghkcfmcnlaaGreatDoor
namespace Go.Proofs.YtlfbghkcfmcnlaaGreatDoor
open Go.Sx Go.RowKit

def cmpS (s t : ByteArray) : Int := if ltS s t then -1 else if (!(ltS s t || (s == t))) then 1 else 0
theorem cmpS_neg (s t : ByteArray) : decide (cmpS s t < 0) = ltS s t := by
  unfold cmpS
  cases h : ltS s t with
  | true => rfl
  | false =>
    simp only [Bool.false_eq_true, if_false, Bool.false_or]
    split <;> rfl
abbrev ltV (g : List (ByteArray × ClassV)) (a b : ItemV) : Bool := ltT g a.pl b.pl
theorem encIt_one (x : ItemV) : ∀ v ∈ encIt x, v.oneCell' = true := by simp [encIt, Value.oneCell']
/-- an item that lies in some blocks -/
inductive GoodF (fp : Nat → Prop) (w : World) : ItemV → Prop
  | mk {x : ItemV} (hs : (sl fp 1 enStr x.As x.says).P w) (hp : (sl fp 3 encIt x.Ap x.parts).P w) (hn : x.cls.size ≤ 9223372036854775807) (hm : smS x.says) (hr : ∀ p ∈ x.parts, GoodF fp w p) : GoodF fp w x
theorem GoodF.stab {fp : Nat → Prop} {w w' : World} {x : ItemV} (h : GoodF fp w x) (hb : ∀ b, fp b → w'.heap[b]? = w.heap[b]?) : GoodF fp w' x := by
  induction h with
  | mk hs hp hn hm _ ih => exact .mk ((sl fp 1 enStr _ _).stab hb hs) ((sl fp 3 encIt _ _).stab hb hp) hn hm ih
theorem GoodF.fp {fp fp' : Nat → Prop} {w : World} {x : ItemV} (h : GoodF fp w x) (hb : ∀ b, fp b → fp' b) : GoodF fp' w x := by
  induction h with
  | mk hs hp hn hm _ ih => exact .mk (sl_fp hs hb) (sl_fp hp hb) hn hm ih
theorem GoodF.good {fp : Nat → Prop} {w : World} {x : ItemV} (h : GoodF fp w x) (hb : ∀ b, fp b → b < w.heap.size) : GoodI w x := by
  induction h with
  | mk hs hp hn hm _ ih => exact .mk (sl_fp hs hb) (sl_fp hp hb) hn hm ih
theorem GoodI.goodF {w : World} {x : ItemV} (h : GoodI w x) : GoodF (fun b => b < w.heap.size) w x := by
  induction h with
  | mk hs hp hn hm _ ih => exact .mk hs hp hn hm ih
/-- items that lie in some blocks, as one fact -/
def itF (fp : Nat → Prop) (xs : List ItemV) : Fact where
  fp := fp
  P := fun w => ∀ x ∈ xs, GoodF fp w x
  stab := fun hb h x hx => (h x hx).stab hb
theorem encIt_len (x : ItemV) : (encIt x).length = 3 := rfl
theorem it_good {F : Nat → Prop} {w0 w : World} {O S : List Fact} (hp : Hp F w0 O S w) {fp : Nat → Prop} {l : List ItemV} (h : itF fp l ∈ S) : ∀ p ∈ l, GoodI w p := fun p hpm => ((hp.shared _ h).1 p hpm).good (hp.shared _ h).2.1
/-- what the sort asks of each item -/
structure SortI (g : List (ByteArray × ClassV)) (x : ItemV) : Prop where
  ok : OkT g x.pl
  cnt : cntT x.pl ≤ 24
theorem insAt_step {α : Type} (lt : α → α → Bool) (P : List α) (x y : α) (q : Nat) (hy : P[q]? = some y) (h : lt x y = true) : insAt lt P x (q + 1) = insAt lt P x q := by
  rw [insAt, hy]; simp only; rw [if_pos h]
theorem insAt_stop {α : Type} (lt : α → α → Bool) (P : List α) (x y : α) (q : Nat) (hy : P[q]? = some y) (h : lt x y = false) : insAt lt P x (q + 1) = P.take (q + 1) ++ x :: P.drop (q + 1) := by
  rw [insAt, hy]; simp only; rw [if_neg (by simp [h])]
/-- two neighbours change places -/
theorem swap_nb {α : Type} (P R : List α) (x y : α) (q : Nat) (hy : P[q]? = some y) :
    ((P.take (q + 1) ++ x :: (P.drop (q + 1) ++ R)).set (q + 1) y).set q x = P.take q ++ x :: (P.drop q ++ R) := by
  obtain ⟨h1, h2⟩ := List.getElem?_eq_some_iff.1 hy
  have e1 : P.take (q + 1) = P.take q ++ [y] := by rw [List.take_add_one, hy]; rfl
  have e2 : P.drop q = y :: P.drop (q + 1) := by rw [List.drop_eq_getElem_cons h1, h2]
  have hl : (P.take q).length = q := by rw [List.length_take]; omega
  have hl1 : (P.take (q + 1)).length = q + 1 := by rw [List.length_take]; omega
  rw [List.set_append_right _ _ (by omega), hl1, Nat.sub_self, List.set_cons_zero, e1, List.append_assoc, List.set_append_right _ _ (by omega), hl, Nat.sub_self, e2]
  rfl
theorem mid_get {α : Type} (P R : List α) (x : α) (j : Nat) (hj : j ≤ P.length) : (P.take j ++ x :: (P.drop j ++ R))[j]? = some x := by
  rw [List.getElem?_append_right (by rw [List.length_take]; omega), List.length_take, Nat.min_eq_left hj, Nat.sub_self]; rfl
theorem mid_get2 {α : Type} (P R : List α) (x y : α) (q : Nat) (hy : P[q]? = some y) : (P.take (q + 1) ++ x :: (P.drop (q + 1) ++ R))[q]? = some y := by
  obtain ⟨h1, h2⟩ := List.getElem?_eq_some_iff.1 hy
  rw [List.getElem?_append_left (by rw [List.length_take]; omega), List.getElem?_take, if_pos (by omega), hy]
theorem mid_len {α : Type} (P R : List α) (x : α) (j : Nat) (hj : j ≤ P.length) : (P.take j ++ x :: (P.drop j ++ R)).length = P.length + 1 + R.length := by
  simp only [List.length_append, List.length_cons, List.length_take, List.length_drop]; omega
theorem isort_append {α : Type} (lt : α → α → Bool) : ∀ (l P : List α) (x : α), isort lt P (l ++ [x]) = insAt lt (isort lt P l) x (isort lt P l).length
  | [], P, x => rfl
  | y :: l, P, x => by rw [List.cons_append, isort, isort_append lt l, isort]
theorem cntL_append : ∀ a b : List IT, cntL (a ++ b) = cntL a + cntL b
  | [], b => by rw [List.nil_append, cntL]; omega
  | x :: a, b => by rw [List.cons_append, cntL, cntL, cntL_append a b]; omega
theorem cntL_insAt (lt : IT → IT → Bool) (P : List IT) (x : IT) : ∀ j, cntL (insAt lt P x j) = cntL P + cntT x
  | 0 => by rw [insAt, cntL]; omega
  | j + 1 => by
    have h : cntL (P.take (j + 1) ++ x :: P.drop (j + 1)) = cntL P + cntT x := by
      rw [cntL_append, cntL]
      have := cntL_append (P.take (j + 1)) (P.drop (j + 1))
      rw [List.take_append_drop] at this
      omega
    rw [insAt]
    split
    · split
      · exact cntL_insAt lt P x j
      · exact h
    · exact h
theorem cntL_isort (lt : IT → IT → Bool) : ∀ (l P : List IT), cntL (isort lt P l) = cntL P + cntL l
  | [], P => by rw [isort, cntL]; omega
  | x :: l, P => by rw [isort, cntL_isort lt l, cntL_insAt, cntL]; omega
mutual
theorem sort_cnt (g : List (ByteArray × ClassV)) : ∀ x : IT, cntT (sortT g x) = cntT x
  | .mk cls says parts => by
    rw [sortT, cntT, cntT, cntL_isort, sortL_cnt g parts, cntL]; omega
theorem sortL_cnt (g : List (ByteArray × ClassV)) : ∀ l : List IT, cntL (sortL g l) = cntL l
  | [] => rfl
  | p :: l => by rw [sortL, cntL, cntL, sort_cnt g p, sortL_cnt g l]
end
theorem sort_cls (g : List (ByteArray × ClassV)) (x : IT) : (sortT g x).cls = x.cls := by rw [sortT_eq]; rfl
theorem sort_says (g : List (ByteArray × ClassV)) (x : IT) : (sortT g x).says = x.says := by rw [sortT_eq]; rfl
theorem sort_parts (g : List (ByteArray × ClassV)) (x : IT) : (sortT g x).parts = isort (ltT g) [] (x.parts.map (sortT g)) := by rw [sortT_eq]; rfl
theorem sort_ok {g : List (ByteArray × ClassV)} {x : IT} (h : OkT g x) : OkT g (sortT g x) := by
  induction h with
  | @mk x h hc hs hn _ ih =>
    refine .mk (by rw [sort_cls, sort_says]; exact h) (by rw [sort_cls]; exact hc) (by rw [sort_says]; exact hs) (by rw [sort_parts, isort_len, List.length_map]; simpa using hn) ?_
    intro p hp
    rw [sort_parts, isort_mem] at hp
    rcases hp with hp | hp
    · cases hp
    · obtain ⟨q, hq, rfl⟩ := List.mem_map.1 hp
      exact ih q hq
theorem ow_blk {e c sz : Nat} {α : Type} {enc : α → List Value} {A : Option Addr} {xs : List α} {w : World} (h : (ow e sz enc A c xs).P w) {b : Nat} (hb : (ow e sz enc A c xs).fp b) : ∃ cur, w.heap[b]? = some (.cells cur e (0, 0)) := by
  have hP : w.ownsRow 0 e sz (.slice A xs.length c) xs.length (xs.flatMap enc) := h
  rcases hP.2 with ⟨h2, _⟩ | ⟨g, cap, cur, hv, h3, h4, _⟩
  · injection h2 with hA
    subst hA
    cases hb
  · injection hv with hA _ _
    subst hA
    have : some g = some b := hb
    injection this with this
    subst this
    exact ⟨cur, h4⟩
theorem ow_not {e f c sz : Nat} {α : Type} {enc : α → List Value} {A : Option Addr} {xs : List α} {w : World} (h : (ow e sz enc A c xs).P w) {b : Nat} {cs : List Value} (hb : w.heap[b]? = some (cellsB f cs)) (hne : e ≠ f) : ¬ (ow e sz enc A c xs).fp b := by
  intro hf
  obtain ⟨cur, h1⟩ := ow_blk h hf
  rw [hb] at h1
  injection h1 with h1
  injection h1 with _ h2
  exact hne h2.symm
end Go.Proofs.YtlfbghkcfmcnlaaGreatDoor
namespace Go.Proofs.YtlfbghkcfmcnlaaGreatDoor
open Go.Sx Go.RowKit

structure Meas where
  tol : Int
  lab : Int
  deriving Inhabited, DecidableEq
abbrev encMe (m : Meas) : List Value := [.int .i64 m.tol, .int .i64 m.lab]
abbrev evMe (m : Meas) : Value := .agg #[.int .i64 m.tol, .int .i64 m.lab]
structure Span where
  lo : Int
  hi : Int
  deriving Inhabited, DecidableEq
abbrev encSp (s : Span) : List Value := [.int .i64 s.lo, .int .i64 s.hi]
abbrev evSp (s : Span) : Value := .agg #[.int .i64 s.lo, .int .i64 s.hi]
/-- a list of numbers, and where it lies -/
structure ListV where
  A : Option Addr
  c : Nat
  l : List Int
instance : Inhabited ListV := ⟨⟨none, 0, []⟩⟩
abbrev encLs (x : ListV) : List Value := [.slice x.A x.l.length x.c]
abbrev GoodL (w : World) (x : ListV) : Prop := Rd w 1 enInt x.A x.l
/-- a fake, and where it lies -/
structure FakeV where
  A : Option Addr
  c : Nat
  has : List Span
instance : Inhabited FakeV := ⟨⟨none, 0, []⟩⟩
abbrev encFk (x : FakeV) : List Value := [.slice x.A x.has.length x.c]
abbrev evFk (x : FakeV) : Value := .agg #[.slice x.A x.has.length x.c]
abbrev GoodK (w : World) (x : FakeV) : Prop := Rd w 2 encSp x.A x.has

theorem encSp_one (x : Span) : ∀ v ∈ encSp x, v.oneCell' = true := by simp [encSp, Value.oneCell']
/-! ### Checks -/
def meas1 (m : Meas) : Bool := btw 0 m.tol 1000 && btw 1 m.lab 1000
def measOk (ms : List Meas) : Bool := btw 1 ms.length 8 && ms.all meas1
def measE (ms : List Meas) : Int := if measOk ms then 0 else 12
def rd1 (n : Int) : Bool := btw (-1) n 100000
def rdOk (k : Nat) (l : List Int) : Bool := ((l.length : Int) == (k : Int)) && l.all rd1
def rdOkV (k : Nat) (x : ListV) : Bool := rdOk k x.l
def rdsE (k : Nat) (ls : List ListV) : Int := if ls.all (rdOkV k) then 0 else 13
/-- where the first number is that is no reading; -1: nowhere -/
def firstBad : List Int → Nat → Int
  | [], _ => -1
  | x :: l, n => if rd1 x = false then n else firstBad l (n + 1)
theorem firstBad_drop (l : List Int) (k : Nat) (x : Int) (h : l[k]? = some x) : firstBad (l.drop k) k = if rd1 x = false then (k : Int) else firstBad (l.drop (k + 1)) (k + 1) := by
  obtain ⟨h1, h2⟩ := List.getElem?_eq_some_iff.1 h
  rw [List.drop_eq_getElem_cons h1, h2, firstBad]
theorem firstBad_all (l : List Int) (n : Nat) : decide (0 ≤ firstBad l n) = !(l.all rd1) := by
  induction l generalizing n with
  | nil => rfl
  | cons q l ih =>
    rw [firstBad, List.all_cons]
    cases h : rd1 q with
    | false => rw [if_pos rfl]; exact decide_eq_true (by omega)
    | true => rw [if_neg (by simp), ih, Bool.true_and]
def prc1 (n : Int) : Bool := btw 0 n 1000
def firstPrc : List Int → Nat → Int
  | [], _ => -1
  | x :: l, n => if prc1 x = false then n else firstPrc l (n + 1)
theorem firstPrc_drop (l : List Int) (k : Nat) (x : Int) (h : l[k]? = some x) : firstPrc (l.drop k) k = if prc1 x = false then (k : Int) else firstPrc (l.drop (k + 1)) (k + 1) := by
  obtain ⟨h1, h2⟩ := List.getElem?_eq_some_iff.1 h
  rw [List.drop_eq_getElem_cons h1, h2, firstPrc]
theorem firstPrc_all (l : List Int) (n : Nat) : decide (0 ≤ firstPrc l n) = !(l.all prc1) := by
  induction l generalizing n with
  | nil => rfl
  | cons q l ih =>
    rw [firstPrc, List.all_cons]
    cases h : prc1 q with
    | false => rw [if_pos rfl]; exact decide_eq_true (by omega)
    | true => rw [if_neg (by simp), ih, Bool.true_and]
def badSp (s : Span) : Bool := (decide (s.lo < 0) || decide (s.hi < s.lo)) || decide (100000 < s.hi)
def goodSp (s : Span) : Bool := !(badSp s)
def fake1 (k : Nat) (f : FakeV) : Bool := ((f.has.length : Int) == (k : Int)) && f.has.all goodSp
def fakesOk (k : Nat) (fs : List FakeV) : Bool := decide ((fs.length : Int) ≤ 10) && fs.all (fake1 k)
def skillE (ms : List Meas) (tk : List Int) (fs : List FakeV) : Int :=
  if measOk ms then (if rdOk ms.length tk then (if fakesOk ms.length fs then 0 else 14) else 13) else 12

/-! ### What is narrowed, what agrees -/
def nar1 (tol : Int) (s : Span) (r : Int) : Span := if 0 ≤ r then ⟨max s.lo (r - tol), min s.hi (r + tol)⟩ else s
def narS (tol : Int) : Span → List Int → Span
  | s, [] => s
  | s, r :: rs => narS tol (nar1 tol s r) rs
def col (k : Nat) (ls : List ListV) : List Int := ls.map (fun x => x.l.getD k 0)
abbrev sp0 : Span := ⟨0, 100000⟩
/-- the spans of the measures from number k on -/
def narF (ls : List ListV) : List Meas → Nat → Option (List Span)
  | [], _ => some []
  | m :: ms, k => if (narS m.tol sp0 (col k ls)).hi < (narS m.tol sp0 (col k ls)).lo then none else (narF ls ms (k + 1)).map (narS m.tol sp0 (col k ls) :: ·)
def NarE (ms : List Meas) (ls : List ListV) : Int := if measOk ms then (if decide (16 < (ls.length : Int)) then 3 else if ls.all (rdOkV ms.length) then (if (narF ls ms 0).isSome then 0 else 15) else 13) else 12
def NarL (ms : List Meas) (ls : List ListV) : List Span := if NarE ms ls = 0 then (narF ls ms 0).getD [] else []
def disag (m : Meas) (a b : Int) : Bool := (decide (0 ≤ a) && decide (0 ≤ b)) && !(btw (-2 * m.tol) (b - a) (2 * m.tol))
def agrF : List Meas → List Int → List Int → Bool
  | m :: ms, a :: as, b :: bs => !(disag m a b) && agrF ms as bs
  | _, _, _ => true
theorem agrF_drop (ms : List Meas) (as bs : List Int) (k : Nat) (m : Meas) (a b : Int) (h : ms[k]? = some m) (ha : as[k]? = some a) (hb : bs[k]? = some b) :
    agrF (ms.drop k) (as.drop k) (bs.drop k) = (!(disag m a b) && agrF (ms.drop (k + 1)) (as.drop (k + 1)) (bs.drop (k + 1))) := by
  obtain ⟨h1, h2⟩ := List.getElem?_eq_some_iff.1 h
  obtain ⟨h3, h4⟩ := List.getElem?_eq_some_iff.1 ha
  obtain ⟨h5, h6⟩ := List.getElem?_eq_some_iff.1 hb
  rw [List.drop_eq_getElem_cons h1, h2, List.drop_eq_getElem_cons h3, h4, List.drop_eq_getElem_cons h5, h6, agrF]
def AgrE (ms : List Meas) (a b : List Int) : Int := if measOk ms then (if rdOk ms.length a && rdOk ms.length b then 0 else 13) else 12
def AgrB (ms : List Meas) (a b : List Int) : Bool := (AgrE ms a b == 0) && agrF ms a b

/-! ### Fakes -/
def fnd (m : Meas) (r : Int) (s : Span) : Bool := decide (0 ≤ r) && (decide (r + 3 * m.tol < s.lo) || decide (s.hi < r - 3 * m.tol))
/-- the numbers of the measures that find a fake, from number k on -/
def fndF : List Meas → List Int → List Span → Nat → List Int
  | m :: ms, r :: rs, s :: ss, k => if fnd m r s then (k : Int) :: fndF ms rs ss (k + 1) else fndF ms rs ss (k + 1)
  | _, _, _, _ => []
@[simp] theorem fndF_nil (rs : List Int) (ss : List Span) (k : Nat) : fndF [] rs ss k = [] := by simp [fndF]
theorem fndF_drop (ms : List Meas) (rs : List Int) (ss : List Span) (k : Nat) (m : Meas) (r : Int) (s : Span) (h : ms[k]? = some m) (hr : rs[k]? = some r) (hs : ss[k]? = some s) :
    fndF (ms.drop k) (rs.drop k) (ss.drop k) k = if fnd m r s then (k : Int) :: fndF (ms.drop (k + 1)) (rs.drop (k + 1)) (ss.drop (k + 1)) (k + 1) else fndF (ms.drop (k + 1)) (rs.drop (k + 1)) (ss.drop (k + 1)) (k + 1) := by
  obtain ⟨h1, h2⟩ := List.getElem?_eq_some_iff.1 h
  obtain ⟨h3, h4⟩ := List.getElem?_eq_some_iff.1 hr
  obtain ⟨h5, h6⟩ := List.getElem?_eq_some_iff.1 hs
  rw [List.drop_eq_getElem_cons h1, h2, List.drop_eq_getElem_cons h3, h4, List.drop_eq_getElem_cons h5, h6, fndF]
def foundL (ms : List Meas) (tk : List Int) (f : FakeV) : List Int := fndF ms tk f.has 0
theorem fndF_len : ∀ (ms : List Meas) (rs : List Int) (ss : List Span) (k : Nat), (fndF ms rs ss k).length ≤ ms.length
  | [], _, _, _ => by simp [fndF]
  | _ :: _, [], _, _ => by simp [fndF]
  | _ :: _, _ :: _, [], _ => by simp [fndF]
  | m :: ms, r :: rs, s :: ss, k => by
    have := fndF_len ms rs ss (k + 1)
    rw [fndF]; split
    · simp only [List.length_cons]; omega
    · simp only [List.length_cons]; omega
def FndE (ms : List Meas) (tk : List Int) (f : FakeV) : Int := skillE ms tk [f]
def FndL (ms : List Meas) (tk : List Int) (f : FakeV) : List Int := if FndE ms tk f = 0 then foundL ms tk f else []
def hasI (l : List Int) (n : Int) : Bool := l.any (fun q => decide (q = n))
theorem seekI (l : List Int) (n : Int) (i : Nat) : decide (0 ≤ seek l n i) = hasI l n := by
  induction l generalizing i with
  | nil => rfl
  | cons q l ih =>
    rw [seek]
    show _ = (decide (q = n) || hasI l n)
    by_cases h : q = n
    · rw [if_pos h, decide_eq_true h, Bool.true_or]; exact decide_eq_true (by omega)
    · rw [if_neg h, decide_eq_false h, Bool.false_or]
      exact ih (i + 1)
def shw1 (set : List Int) (l : List Int) : Bool := l.any (hasI set)
theorem any_drop {α : Type} (p : α → Bool) (l : List α) (k : Nat) (x : α) (h : l[k]? = some x) : (l.drop k).any p = (p x || (l.drop (k + 1)).any p) := by
  obtain ⟨h1, h2⟩ := List.getElem?_eq_some_iff.1 h
  rw [List.drop_eq_getElem_cons h1, h2, List.any_cons]
def shwF (ms : List Meas) (tk : List Int) (set : List Int) (f : FakeV) : Bool := shw1 set (foundL ms tk f)
def shwB (ms : List Meas) (tk : List Int) (fs : List FakeV) (set : List Int) : Bool := fs.all (shwF ms tk set)
/-- the set's numbers are such of measures, each greater than the one before it -/
def setF (n : Int) : List Int → Int → Bool
  | [], _ => true
  | i :: l, p => (btw 0 i (n - 1) && decide (p < i)) && setF n l i
def setOk (n : Int) (set : List Int) : Bool := setF n set (-1)
def ShwE (ms : List Meas) (tk : List Int) (fs : List FakeV) (set : List Int) : Int := if skillE ms tk fs = 0 then (if setOk ms.length set then 0 else 7) else skillE ms tk fs
def ShwB (ms : List Meas) (tk : List Int) (fs : List FakeV) (set : List Int) : Bool := (ShwE ms tk fs set == 0) && shwB ms tk fs set
/-! ### What the checks say -/
theorem meas1_V (m : Meas) : ((!(decide (0 ≤ m.tol) && decide (m.tol ≤ 1000))) || !(decide (1 ≤ m.lab) && decide (m.lab ≤ 1000))) = !(meas1 m) := by
  unfold meas1 btw
  cases decide (0 ≤ m.tol) <;> cases decide (m.tol ≤ 1000) <;> cases decide (1 ≤ m.lab) <;> cases decide (m.lab ≤ 1000) <;> rfl
theorem rd_V (a b : Int) (c : Bool) : ((a != b) || !c) = !((a == b) && c) := by rw [Bool.not_and]; rfl
theorem meas_bd {ms : List Meas} (h : measOk ms = true) : (1 ≤ ms.length ∧ ms.length ≤ 8) ∧ ∀ m ∈ ms, (0 ≤ m.tol ∧ m.tol ≤ 1000) ∧ (1 ≤ m.lab ∧ m.lab ≤ 1000) := by
  simp only [measOk, btw, Bool.and_eq_true, decide_eq_true_eq, List.all_eq_true, meas1] at h
  exact ⟨by omega, fun m hm => h.2 m hm⟩
theorem rdOk_bd {k : Nat} {l : List Int} (h : rdOk k l = true) : l.length = k ∧ ∀ x ∈ l, -1 ≤ x ∧ x ≤ 100000 := by
  simp only [rdOk, rd1, btw, Bool.and_eq_true, decide_eq_true_eq, List.all_eq_true, beq_iff_eq] at h
  exact ⟨by omega, h.2⟩
theorem fakes_bd {k : Nat} {fs : List FakeV} (h : fakesOk k fs = true) : fs.length ≤ 10 ∧ ∀ f ∈ fs, f.has.length = k ∧ ∀ s ∈ f.has, 0 ≤ s.lo ∧ s.lo ≤ s.hi ∧ s.hi ≤ 100000 := by
  simp only [fakesOk, fake1, Bool.and_eq_true, decide_eq_true_eq, List.all_eq_true, beq_iff_eq] at h
  refine ⟨by omega, fun f hf => ⟨by have := (h.2 f hf).1; omega, fun s hs => ?_⟩⟩
  have := (h.2 f hf).2 s hs
  simp only [goodSp, badSp, Bool.not_eq_true', Bool.or_eq_false_iff, decide_eq_false_iff_not] at this
  omega
theorem skill_0 {ms : List Meas} {tk : List Int} {fs : List FakeV} (h : (skillE ms tk fs != 0) = false) : measOk ms = true ∧ rdOk ms.length tk = true ∧ fakesOk ms.length fs = true ∧ skillE ms tk fs = 0 := by
  have h0 : skillE ms tk fs = 0 := by simpa using h
  have h1 := h0
  unfold skillE at h1
  split at h1
  · split at h1
    · split at h1
      · exact ⟨by assumption, by assumption, by assumption, h0⟩
      · cases h1
    · cases h1
  · cases h1
theorem skill_no {ms : List Meas} {tk : List Int} {fs : List FakeV} (h : (skillE ms tk fs != 0) = true) : ¬ skillE ms tk fs = 0 := by simpa using h
theorem meas_0 {ms : List Meas} (h : (measE ms != 0) = false) : measOk ms = true := by
  unfold measE at h; cases hm : measOk ms with
  | true => rfl
  | false => rw [hm] at h; cases h
theorem meas_no {ms : List Meas} (h : (measE ms != 0) = true) : measOk ms = false := by
  unfold measE at h; cases hm : measOk ms with
  | false => rfl
  | true => rw [hm] at h; cases h
theorem rds_0 {k : Nat} {ls : List ListV} (h : (rdsE k ls != 0) = false) : ls.all (rdOkV k) = true := by
  unfold rdsE at h; cases hm : ls.all (rdOkV k) with
  | true => rfl
  | false => rw [hm] at h; cases h
theorem rds_no {k : Nat} {ls : List ListV} (h : (rdsE k ls != 0) = true) : ls.all (rdOkV k) = false := by
  unfold rdsE at h; cases hm : ls.all (rdOkV k) with
  | false => rfl
  | true => rw [hm] at h; cases h
theorem setF_drop (n : Int) (set : List Int) (k : Nat) (i p : Int) (h : set[k]? = some i) : setF n (set.drop k) p = ((btw 0 i (n - 1) && decide (p < i)) && setF n (set.drop (k + 1)) i) := by
  obtain ⟨h1, h2⟩ := List.getElem?_eq_some_iff.1 h
  rw [List.drop_eq_getElem_cons h1, h2, setF]
theorem narS_drop (tol : Int) (s : Span) (l : List Int) (k : Nat) (r : Int) (h : l[k]? = some r) : narS tol s (l.drop k) = narS tol (nar1 tol s r) (l.drop (k + 1)) := by
  obtain ⟨h1, h2⟩ := List.getElem?_eq_some_iff.1 h
  rw [List.drop_eq_getElem_cons h1, h2, narS]
theorem col_get (ls : List ListV) (i k : Nat) (r : ListV) (n : Int) (h : ls[i]? = some r) (hn : r.l[k]? = some n) : (col k ls)[i]? = some n := by
  unfold col; rw [List.getElem?_map, h]; show some (r.l.getD k 0) = _; rw [List.getD_eq_getElem?_getD, hn]; rfl
theorem col_len (ls : List ListV) (k : Nat) : (col k ls).length = ls.length := by unfold col; rw [List.length_map]
/-- the spans of the first measures, and whether none of them is empty -/
def spK (ls : List ListV) (k : Nat) (m : Meas) : Span := narS m.tol sp0 (col k ls)
theorem narF_drop (ls : List ListV) (ms : List Meas) (k : Nat) (m : Meas) (h : ms[k]? = some m) :
    narF ls (ms.drop k) k = if (spK ls k m).hi < (spK ls k m).lo then none else (narF ls (ms.drop (k + 1)) (k + 1)).map (spK ls k m :: ·) := by
  obtain ⟨h1, h2⟩ := List.getElem?_eq_some_iff.1 h
  rw [List.drop_eq_getElem_cons h1, h2, narF]; rfl
def prevI (set : List Int) (k : Nat) : Int := if k = 0 then -1 else set.getD (k - 1) 0
theorem prevI_succ (set : List Int) (k : Nat) (i : Int) (h : set[k]? = some i) : prevI set (k + 1) = i := by
  unfold prevI; rw [if_neg (by omega), Nat.add_sub_cancel, List.getD_eq_getElem?_getD, h]; rfl
theorem set_V (n i q : Int) (k : Nat) (p : Int) (hp : p = if k = 0 then -1 else q) : ((!(decide (0 ≤ i) && decide (i ≤ n - 1))) || (decide (0 < (k : Int)) && decide (i ≤ q))) = !(btw 0 i (n - 1) && decide (p < i)) := by
  unfold btw
  subst hp
  by_cases hk : k = 0
  · subst hk
    rw [if_pos rfl]
    by_cases h : 0 ≤ i
    · rw [decide_eq_true h, decide_eq_true (show (-1 : Int) < i by omega)]; simp
    · rw [decide_eq_false h]; simp
  · rw [if_neg hk, decide_eq_true (show 0 < (k : Int) by omega), Bool.true_and]
    have : decide (i ≤ q) = !(decide (q < i)) := by
      by_cases h : i ≤ q
      · rw [decide_eq_true h, decide_eq_false (by omega)]; rfl
      · rw [decide_eq_false h, decide_eq_true (by omega)]; rfl
    rw [this]
    cases decide (0 ≤ i) <;> cases decide (i ≤ n - 1) <;> cases decide (q < i) <;> rfl
theorem nar_no1 {ms : List Meas} {ls : List ListV} (h : measOk ms = false) : NarE ms ls = 12 ∧ NarL ms ls = [] := by
  have e : NarE ms ls = 12 := by rw [NarE, h]; rfl
  exact ⟨e, by rw [NarL, if_neg (by rw [e]; decide)]⟩
theorem nar_no2 {ms : List Meas} {ls : List ListV} (h : measOk ms = true) (h2 : decide (16 < (ls.length : Int)) = true) : NarE ms ls = 3 ∧ NarL ms ls = [] := by
  have e : NarE ms ls = 3 := by rw [NarE, h, if_pos rfl, h2]; rfl
  exact ⟨e, by rw [NarL, if_neg (by rw [e]; decide)]⟩
theorem nar_no3 {ms : List Meas} {ls : List ListV} (h : measOk ms = true) (h2 : decide (16 < (ls.length : Int)) = false) (h3 : ls.all (rdOkV ms.length) = false) : NarE ms ls = 13 ∧ NarL ms ls = [] := by
  have e : NarE ms ls = 13 := by rw [NarE, h, if_pos rfl, h2, h3]; rfl
  exact ⟨e, by rw [NarL, if_neg (by rw [e]; decide)]⟩
theorem nar_no4 {ms : List Meas} {ls : List ListV} (h : measOk ms = true) (h2 : decide (16 < (ls.length : Int)) = false) (h3 : ls.all (rdOkV ms.length) = true) (h4 : narF ls ms 0 = none) : NarE ms ls = 15 ∧ NarL ms ls = [] := by
  have e : NarE ms ls = 15 := by rw [NarE, h, if_pos rfl, h2, h3, h4]; rfl
  exact ⟨e, by rw [NarL, if_neg (by rw [e]; decide)]⟩
theorem nar_yes {ms : List Meas} {ls : List ListV} {l : List Span} (h : measOk ms = true) (h2 : decide (16 < (ls.length : Int)) = false) (h3 : ls.all (rdOkV ms.length) = true) (h4 : narF ls ms 0 = some l) : NarE ms ls = 0 ∧ NarL ms ls = l := by
  have e : NarE ms ls = 0 := by rw [NarE, h, if_pos rfl, h2, h3, h4]; rfl
  exact ⟨e, by rw [NarL, if_pos e, h4]; rfl⟩
theorem rdsV_bd {k : Nat} {ls : List ListV} (h : ls.all (rdOkV k) = true) : ∀ r ∈ ls, r.l.length = k ∧ ∀ x ∈ r.l, -1 ≤ x ∧ x ≤ 100000 := by
  intro r hr
  exact rdOk_bd (List.all_eq_true.1 h r hr)
theorem agr_no1 {ms : List Meas} {a b : List Int} (h : measOk ms = false) : AgrE ms a b = 12 ∧ AgrB ms a b = false := by
  have e : AgrE ms a b = 12 := by rw [AgrE, h]; rfl
  exact ⟨e, by rw [AgrB, e]; rfl⟩
theorem agr_no2 {ms : List Meas} {a b : List Int} (h : measOk ms = true) (h2 : (rdOk ms.length a && rdOk ms.length b) = false) : AgrE ms a b = 13 ∧ AgrB ms a b = false := by
  have e : AgrE ms a b = 13 := by rw [AgrE, h, if_pos rfl, h2]; rfl
  exact ⟨e, by rw [AgrB, e]; rfl⟩
theorem agr_yes {ms : List Meas} {a b : List Int} (h : measOk ms = true) (h2 : (rdOk ms.length a && rdOk ms.length b) = true) : AgrE ms a b = 0 ∧ AgrB ms a b = agrF ms a b := by
  have e : AgrE ms a b = 0 := by rw [AgrE, h, if_pos rfl, h2]; rfl
  exact ⟨e, by rw [AgrB, e]; rfl⟩
theorem shw_no1 {ms : List Meas} {tk : List Int} {fs : List FakeV} {set : List Int} (h : ¬ skillE ms tk fs = 0) : ShwE ms tk fs set = skillE ms tk fs ∧ ShwB ms tk fs set = false := by
  have e : ShwE ms tk fs set = skillE ms tk fs := by rw [ShwE, if_neg h]
  exact ⟨e, by rw [ShwB, e, show (skillE ms tk fs == 0) = false by simpa using h]; rfl⟩
theorem shw_no2 {ms : List Meas} {tk : List Int} {fs : List FakeV} {set : List Int} (h : skillE ms tk fs = 0) (h2 : setOk ms.length set = false) : ShwE ms tk fs set = 7 ∧ ShwB ms tk fs set = false := by
  have e : ShwE ms tk fs set = 7 := by rw [ShwE, if_pos h, h2]; rfl
  exact ⟨e, by rw [ShwB, e]; rfl⟩
theorem shw_yes {ms : List Meas} {tk : List Int} {fs : List FakeV} {set : List Int} (h : skillE ms tk fs = 0) (h2 : setOk ms.length set = true) : ShwE ms tk fs set = 0 ∧ ShwB ms tk fs set = shwB ms tk fs set := by
  have e : ShwE ms tk fs set = 0 := by rw [ShwE, if_pos h, h2]; rfl
  exact ⟨e, by rw [ShwB, e]; rfl⟩
end Go.Proofs.YtlfbghkcfmcnlaaGreatDoor
namespace Go.Proofs.YtlfbghkcfmcnlaaGreatDoor
open Go.Sx Go.RowKit

/-- the numbers from k on, n of them, whose bit is there -/
def selF (bits : Nat) : Nat → Nat → List Int
  | 0, _ => []
  | n + 1, k => if bits / 2 ^ k % 2 = 1 then (k : Int) :: selF bits n (k + 1) else selF bits n (k + 1)
theorem selF_len (bits : Nat) : ∀ (n k : Nat), (selF bits n k).length ≤ n
  | 0, _ => by simp [selF]
  | n + 1, k => by
    have := selF_len bits n (k + 1)
    rw [selF]; split
    · simp only [List.length_cons]; omega
    · omega
theorem selF_rng (bits : Nat) : ∀ (n k : Nat), ∀ i ∈ selF bits n k, (k : Int) ≤ i ∧ i < (k : Int) + n
  | 0, _ => by simp [selF]
  | n + 1, k => by
    intro i hi
    have := selF_rng bits n (k + 1) i
    rw [selF] at hi
    split at hi
    · rcases List.mem_cons.1 hi with h | h
      · omega
      · have := this h; omega
    · have := this hi; omega
def labN (ms : List Meas) (set : List Int) : Int := (set.map (fun i => (ms.getD i.toNat default).lab)).sum
theorem labN_bd (ms : List Meas) (hm : ∀ m ∈ ms, 1 ≤ m.lab ∧ m.lab ≤ 1000) (set : List Int) (hs : ∀ i ∈ set, 0 ≤ i ∧ i < ms.length) : 0 ≤ labN ms set ∧ labN ms set ≤ 1000 * set.length := by
  induction set with
  | nil => simp [labN]
  | cons i l ih =>
    have h1 := ih (fun j hj => hs j (List.mem_cons_of_mem _ hj))
    have h2 := hs i (List.mem_cons_self ..)
    have h3 : ms.getD i.toNat default ∈ ms := by
      rw [List.getD_eq_getElem?_getD, List.getElem?_eq_getElem (show i.toNat < ms.length by omega)]
      exact List.getElem_mem _
    have h4 := hm _ h3
    unfold labN at h1 ⊢
    rw [List.map_cons, List.sum_cons, List.length_cons]
    omega
/-- the order of lists of numbers -/
def cmpL : List Int → List Int → Int
  | [], [] => 0
  | [], _ :: _ => -1
  | _ :: _, [] => 1
  | a :: x, b :: y => if a = b then cmpL x y else if a < b then -1 else 1
abbrev Best := List Int × Int
def stepL (ms : List Meas) (tk : List Int) (fs : List FakeV) (st : Best) (bits : Nat) : Best :=
  if shwB ms tk fs (selF bits ms.length 0) then (if st.2 < 0 ∨ labN ms (selF bits ms.length 0) < st.2 ∨ (labN ms (selF bits ms.length 0) = st.2 ∧ cmpL (selF bits ms.length 0) st.1 < 0) then (selF bits ms.length 0, labN ms (selF bits ms.length 0)) else st) else st
def bestN (ms : List Meas) (tk : List Int) (fs : List FakeV) (n : Nat) : Best := (List.range n).foldl (stepL ms tk fs) ([], -1)
theorem bestN_succ (ms : List Meas) (tk : List Int) (fs : List FakeV) (n : Nat) : bestN ms tk fs (n + 1) = stepL ms tk fs (bestN ms tk fs n) n := by
  unfold bestN; rw [List.range_succ, List.foldl_append]; rfl
def best (ms : List Meas) (tk : List Int) (fs : List FakeV) : Best := bestN ms tk fs (2 ^ ms.length)
theorem bestN_bd (ms : List Meas) (tk : List Int) (fs : List FakeV) (hm : ∀ m ∈ ms, 1 ≤ m.lab ∧ m.lab ≤ 1000) (n : Nat) : -1 ≤ (bestN ms tk fs n).2 ∧ (bestN ms tk fs n).2 ≤ 1000 * ms.length ∧ (bestN ms tk fs n).1.length ≤ ms.length := by
  induction n with
  | zero => exact ⟨Int.le_refl _, (by show (-1 : Int) ≤ _; omega), Nat.zero_le _⟩
  | succ n ih =>
    rw [bestN_succ]
    have h1 := selF_len n ms.length 0
    have h2 := labN_bd ms hm (selF n ms.length 0) (fun i hi => by have := selF_rng n ms.length 0 i hi; omega)
    unfold stepL
    split
    · split
      · exact ⟨by simp only; omega, by simp only; omega, h1⟩
      · exact ih
    · exact ih
def LstE (ms : List Meas) (tk : List Int) (fs : List FakeV) : Int := if skillE ms tk fs = 0 then (if (best ms tk fs).2 < 0 then 4 else 0) else skillE ms tk fs
def LstS (ms : List Meas) (tk : List Int) (fs : List FakeV) : List Int := if LstE ms tk fs = 0 then (best ms tk fs).1 else []
def LstN (ms : List Meas) (tk : List Int) (fs : List FakeV) : Int := if LstE ms tk fs = 0 then (best ms tk fs).2 else 0

/-! ### The bound -/
/-- what the prices of the fakes are together that measure number i finds -/
def bndF (m : Meas) (r : Int) (i : Nat) : List FakeV → List Int → Int
  | f :: fs, p :: ps => (if fnd m r (f.has.getD i default) then p else 0) + bndF m r i fs ps
  | _, _ => 0
theorem bndF_drop (m : Meas) (r : Int) (i : Nat) (fs : List FakeV) (ps : List Int) (k : Nat) (f : FakeV) (p : Int) (hf : fs[k]? = some f) (hp : ps[k]? = some p) :
    bndF m r i (fs.drop k) (ps.drop k) = (if fnd m r (f.has.getD i default) then p else 0) + bndF m r i (fs.drop (k + 1)) (ps.drop (k + 1)) := by
  obtain ⟨h1, h2⟩ := List.getElem?_eq_some_iff.1 hf
  obtain ⟨h3, h4⟩ := List.getElem?_eq_some_iff.1 hp
  rw [List.drop_eq_getElem_cons h1, h2, List.drop_eq_getElem_cons h3, h4, bndF]
theorem bndF_bd (m : Meas) (r : Int) (i : Nat) : ∀ (fs : List FakeV) (ps : List Int), (∀ p ∈ ps, 0 ≤ p ∧ p ≤ 1000) → 0 ≤ bndF m r i fs ps ∧ bndF m r i fs ps ≤ 1000 * fs.length
  | [], _, _ => by simp [bndF]
  | _ :: _, [], _ => by simp only [bndF, List.length_cons]; omega
  | f :: fs, p :: ps, h => by
    have h1 := bndF_bd m r i fs ps (fun q hq => h q (List.mem_cons_of_mem _ hq))
    have h2 := h p (List.mem_cons_self ..)
    rw [bndF, List.length_cons]
    split <;> omega
def bndA (tk : List Int) (fs : List FakeV) (ps : List Int) : List Meas → Nat → Bool
  | [], _ => true
  | m :: ms, k => decide (bndF m (tk.getD k 0) k fs ps ≤ m.lab) && bndA tk fs ps ms (k + 1)
theorem bndA_drop (tk : List Int) (fs : List FakeV) (ps : List Int) (ms : List Meas) (k : Nat) (m : Meas) (h : ms[k]? = some m) :
    bndA tk fs ps (ms.drop k) k = (decide (bndF m (tk.getD k 0) k fs ps ≤ m.lab) && bndA tk fs ps (ms.drop (k + 1)) (k + 1)) := by
  obtain ⟨h1, h2⟩ := List.getElem?_eq_some_iff.1 h
  rw [List.drop_eq_getElem_cons h1, h2, bndA]
def prOk (fs : List FakeV) (ps : List Int) : Bool := ((ps.length : Int) == (fs.length : Int)) && ps.all prc1
def BndE (ms : List Meas) (tk : List Int) (fs : List FakeV) (ps : List Int) : Int := if skillE ms tk fs = 0 then (if prOk fs ps && bndA tk fs ps ms 0 then 0 else 16) else skillE ms tk fs
def BndN (ms : List Meas) (tk : List Int) (fs : List FakeV) (ps : List Int) : Int := if BndE ms tk fs ps = 0 then ps.sum else 0
theorem map_sum_drop (f : Int → Int) (l : List Int) (k : Nat) (x : Int) (h : l[k]? = some x) : ((l.drop k).map f).sum = f x + ((l.drop (k + 1)).map f).sum := by
  obtain ⟨h1, h2⟩ := List.getElem?_eq_some_iff.1 h
  rw [List.drop_eq_getElem_cons h1, h2, List.map_cons, List.sum_cons]
theorem selF_step (bits N k : Nat) (h : k < N) : selF bits (N - k) k = if bits / 2 ^ k % 2 = 1 then (k : Int) :: selF bits (N - (k + 1)) (k + 1) else selF bits (N - (k + 1)) (k + 1) := by
  rw [show N - k = (N - (k + 1)) + 1 by omega, selF]
def cmpI (a b : Int) : Int := if a < b then -1 else if b < a then 1 else 0
theorem cmpL_drop (x y : List Int) (k : Nat) (a b : Int) (ha : x[k]? = some a) (hb : y[k]? = some b) : cmpL (x.drop k) (y.drop k) = if cmpI a b = 0 then cmpL (x.drop (k + 1)) (y.drop (k + 1)) else cmpI a b := by
  obtain ⟨h1, h2⟩ := List.getElem?_eq_some_iff.1 ha
  obtain ⟨h3, h4⟩ := List.getElem?_eq_some_iff.1 hb
  rw [List.drop_eq_getElem_cons h1, h2, List.drop_eq_getElem_cons h3, h4, cmpL]
  by_cases h : a = b
  · have e : cmpI a b = 0 := by rw [cmpI, if_neg (by omega), if_neg (by omega)]
    rw [if_pos h, if_pos e]
  · rw [if_neg h]
    by_cases h5 : a < b
    · have e : cmpI a b = -1 := by rw [cmpI, if_pos h5]
      rw [if_pos h5, e]; rfl
    · have e : cmpI a b = 1 := by rw [cmpI, if_neg h5, if_pos (by omega)]
      rw [if_neg h5, e]; rfl
theorem cmpL_end (x y : List Int) (k : Nat) (a : Int) (ha : x[k]? = some a) (hy : y.length ≤ k) : cmpL (x.drop k) (y.drop k) = 1 := by
  obtain ⟨h1, h2⟩ := List.getElem?_eq_some_iff.1 ha
  rw [List.drop_eq_getElem_cons h1, h2, List.drop_of_length_le hy, cmpL]
theorem cmpL_end2 (x y : List Int) (k : Nat) (hx : x.length ≤ k) : cmpL (x.drop k) (y.drop k) = if k < y.length then -1 else 0 := by
  rw [List.drop_of_length_le hx]
  split
  · rename_i h
    rw [List.drop_eq_getElem_cons h, cmpL]
  · rename_i h
    rw [List.drop_of_length_le (by omega), cmpL]
theorem sum_nn (f : Int → Int) (q : List Int) (h : ∀ x ∈ q, 0 ≤ f x) : 0 ≤ (q.map f).sum := by
  induction q with
  | nil => simp
  | cons x q ih =>
    have h2 := ih (fun y hy => h y (List.mem_cons_of_mem _ hy))
    have h3 := h x (List.mem_cons_self ..)
    rw [List.map_cons, List.sum_cons]; omega
abbrev labAt (ms : List Meas) (i : Int) : Int := (ms.getD i.toNat default).lab
theorem labAt_bd {ms : List Meas} (hm : ∀ m ∈ ms, (0 ≤ m.tol ∧ m.tol ≤ 1000) ∧ (1 ≤ m.lab ∧ m.lab ≤ 1000)) {i : Int} (hi : 0 ≤ i ∧ i < ms.length) : 1 ≤ labAt ms i ∧ labAt ms i ≤ 1000 := by
  have h3 : ms.getD i.toNat default ∈ ms := by
    rw [List.getD_eq_getElem?_getD, List.getElem?_eq_getElem (show i.toNat < ms.length by omega)]
    exact List.getElem_mem _
  exact (hm _ h3).2
theorem sumP_bd (ps : List Int) (h : ps.all prc1 = true) : 0 ≤ (ps.map (fun x => x)).sum ∧ (ps.map (fun x => x)).sum ≤ 1000 * ps.length := by
  induction ps with
  | nil => simp
  | cons x q ih =>
    rw [List.all_cons, Bool.and_eq_true] at h
    have h2 := ih h.2
    have h3 := h.1
    simp only [prc1, btw, Bool.and_eq_true, decide_eq_true_eq] at h3
    rw [List.map_cons, List.sum_cons, List.length_cons]; omega
theorem prc_bd {ps : List Int} (h : ps.all prc1 = true) : ∀ p ∈ ps, 0 ≤ p ∧ p ≤ 1000 := by
  intro p hp
  have := List.all_eq_true.1 h p hp
  simpa only [prc1, btw, Bool.and_eq_true, decide_eq_true_eq] using this
theorem lst_no1 {ms : List Meas} {tk : List Int} {fs : List FakeV} (h : ¬ skillE ms tk fs = 0) : LstE ms tk fs = skillE ms tk fs ∧ LstS ms tk fs = [] ∧ LstN ms tk fs = 0 := by
  have e : LstE ms tk fs = skillE ms tk fs := by rw [LstE, if_neg h]
  exact ⟨e, by rw [LstS, e, if_neg h], by rw [LstN, e, if_neg h]⟩
theorem lst_no2 {ms : List Meas} {tk : List Int} {fs : List FakeV} (h : skillE ms tk fs = 0) (h2 : (best ms tk fs).2 < 0) : LstE ms tk fs = 4 ∧ LstS ms tk fs = [] ∧ LstN ms tk fs = 0 := by
  have e : LstE ms tk fs = 4 := by rw [LstE, if_pos h, if_pos h2]
  exact ⟨e, by rw [LstS, e]; rfl, by rw [LstN, e]; rfl⟩
theorem lst_yes {ms : List Meas} {tk : List Int} {fs : List FakeV} (h : skillE ms tk fs = 0) (h2 : ¬ (best ms tk fs).2 < 0) : LstE ms tk fs = 0 ∧ LstS ms tk fs = (best ms tk fs).1 ∧ LstN ms tk fs = (best ms tk fs).2 := by
  have e : LstE ms tk fs = 0 := by rw [LstE, if_pos h, if_neg h2]
  exact ⟨e, by rw [LstS, if_pos e], by rw [LstN, if_pos e]⟩
theorem bnd_no1 {ms : List Meas} {tk : List Int} {fs : List FakeV} {ps : List Int} (h : ¬ skillE ms tk fs = 0) : BndE ms tk fs ps = skillE ms tk fs ∧ BndN ms tk fs ps = 0 := by
  have e : BndE ms tk fs ps = skillE ms tk fs := by rw [BndE, if_neg h]
  exact ⟨e, by rw [BndN, e, if_neg h]⟩
theorem bnd_no2 {ms : List Meas} {tk : List Int} {fs : List FakeV} {ps : List Int} (h : skillE ms tk fs = 0) (h2 : (prOk fs ps && bndA tk fs ps ms 0) = false) : BndE ms tk fs ps = 16 ∧ BndN ms tk fs ps = 0 := by
  have e : BndE ms tk fs ps = 16 := by rw [BndE, if_pos h, h2]; rfl
  exact ⟨e, by rw [BndN, e]; rfl⟩
theorem bnd_yes {ms : List Meas} {tk : List Int} {fs : List FakeV} {ps : List Int} (h : skillE ms tk fs = 0) (h2 : (prOk fs ps && bndA tk fs ps ms 0) = true) : BndE ms tk fs ps = 0 ∧ BndN ms tk fs ps = ps.sum := by
  have e : BndE ms tk fs ps = 0 := by rw [BndE, if_pos h, h2]; rfl
  exact ⟨e, by rw [BndN, if_pos e]⟩
end Go.Proofs.YtlfbghkcfmcnlaaGreatDoor
namespace Go.Proofs.YtlfbghkcfmcnlaaGreatDoor
open Go.Sx Go.RowKit

/-- less labour, or the same and before it -/
def ltB (ms : List Meas) (x y : List Int) : Prop := labN ms x < labN ms y ∨ (labN ms x = labN ms y ∧ cmpL x y < 0)
instance (ms : List Meas) (x y : List Int) : Decidable (ltB ms x y) := by unfold ltB; infer_instance
/-- the reference's round -/
def rstepL (ms : List Meas) (tk : List Int) (fs : List FakeV) (b : List Int) (bits : Nat) : List Int :=
  if shwB ms tk fs (selF bits ms.length 0) && decide (ltB ms (selF bits ms.length 0) b) then selF bits ms.length 0 else b
abbrev fullS (ms : List Meas) : List Int := selF (2 ^ ms.length - 1) ms.length 0
def rbestN (ms : List Meas) (tk : List Int) (fs : List FakeV) (n : Nat) : List Int := (List.range n).foldl (rstepL ms tk fs) (fullS ms)
/-- what the program's state says -/
structure StP (ms : List Meas) (tk : List Int) (fs : List FakeV) (n : Nat) (st : Best) : Prop where
  lab : 0 ≤ st.2 → st.2 = labN ms st.1
  rb : rbestN ms tk fs n = if 0 ≤ st.2 ∧ ltB ms st.1 (fullS ms) then st.1 else fullS ms
  sh : 0 ≤ st.2 → shwB ms tk fs st.1 = true
  mi : ∀ b, b < n → shwB ms tk fs (selF b ms.length 0) = true → 0 ≤ st.2 ∧ ¬ ltB ms (selF b ms.length 0) st.1
end Go.Proofs.YtlfbghkcfmcnlaaGreatDoor
namespace Go.Proofs.YtlfbghkcfmcnlaaGreatDoor
open Go.Sx Go.RowKit

abbrev sRing : ByteArray := ⟨#[114, 105, 110, 103]⟩
abbrev sMetal : ByteArray := ⟨#[109, 101, 116, 97, 108]⟩
abbrev sGold : ByteArray := ⟨#[103, 111, 108, 100]⟩
abbrev sSilver : ByteArray := ⟨#[115, 105, 108, 118, 101, 114]⟩
abbrev sSize : ByteArray := ⟨#[115, 105, 122, 101]⟩
abbrev sSmall : ByteArray := ⟨#[115, 109, 97, 108, 108]⟩
abbrev sLarge : ByteArray := ⟨#[108, 97, 114, 103, 101]⟩
abbrev sGem : ByteArray := ⟨#[103, 101, 109]⟩
abbrev sCut : ByteArray := ⟨#[99, 117, 116]⟩
abbrev sRound : ByteArray := ⟨#[114, 111, 117, 110, 100]⟩
abbrev sOval : ByteArray := ⟨#[111, 118, 97, 108]⟩
abbrev sNone : ByteArray := ⟨#[]⟩
/-- where the grammar's parts lie -/
structure GrA where
  v1 : Nat
  v3 : Nat
  t5 : Nat
  p6 : Nat
  v8 : Nat
  t10 : Nat
  g12 : Nat
abbrev at0 (b : Nat) : Option Addr := some ⟨b, 0, none⟩
abbrev gTr1 (a : GrA) : List TraitV := [⟨sMetal, at0 a.v1, 2, [sGold, sSilver], true⟩, ⟨sSize, at0 a.v3, 2, [sSmall, sLarge], false⟩]
abbrev gTr2 (a : GrA) : List TraitV := [⟨sCut, at0 a.v8, 2, [sRound, sOval], false⟩]
abbrev gramV (a : GrA) : List ClassV := [⟨sRing, at0 a.t5, 2, gTr1 a, at0 a.p6, 1, [sGem], 2⟩, ⟨sGem, at0 a.t10, 1, gTr2 a, none, 0, [], 0⟩]
structure GoodTF (fp : Nat → Prop) (w : World) (t : TraitV) : Prop where
  rd : (sl fp 1 enStr t.A t.vals).P w
  sm : smS t.vals
  nm : t.name.size ≤ 9223372036854775807
structure GoodCF (fp : Nat → Prop) (w : World) (c : ClassV) : Prop where
  rt : (sl fp 3 encTr c.At c.traits).P w
  tr : ∀ t ∈ c.traits, GoodTF fp w t
  rp : (sl fp 1 enStr c.Ap c.parts).P w
  sm : smS c.parts
  nm : c.name.size ≤ 9223372036854775807
theorem GoodCF.stab {fp : Nat → Prop} {w w' : World} {c : ClassV} (h : GoodCF fp w c) (hb : ∀ b, fp b → w'.heap[b]? = w.heap[b]?) : GoodCF fp w' c :=
  ⟨(sl fp 3 encTr _ _).stab hb h.rt, fun t ht => ⟨(sl fp 1 enStr _ _).stab hb (h.tr t ht).rd, (h.tr t ht).sm, (h.tr t ht).nm⟩, (sl fp 1 enStr _ _).stab hb h.rp, h.sm, h.nm⟩
theorem GoodCF.good {fp : Nat → Prop} {w : World} {c : ClassV} (h : GoodCF fp w c) (hb : ∀ b, fp b → b < w.heap.size) : GoodC w c :=
  ⟨sl_fp h.rt hb, fun t ht => ⟨sl_fp (h.tr t ht).rd hb, (h.tr t ht).sm, (h.tr t ht).nm⟩, sl_fp h.rp hb, h.sm, h.nm⟩
/-- classes that lie in some blocks, as one fact -/
def clF (fp : Nat → Prop) (A : Option Addr) (l : List ClassV) : Fact where
  fp := fp
  P := fun w => (sl fp 4 encCl A l).P w ∧ ∀ c ∈ l, GoodCF fp w c
  stab := fun hb h => ⟨(sl fp 4 encCl A l).stab hb h.1, fun c hc => (h.2 c hc).stab hb⟩
class MemS (f : Fact) (S : List Fact) : Prop where
  mem : f ∈ S
instance (priority := 1000) MemS.head (f : Fact) (S : List Fact) : MemS f (f :: S) := ⟨List.mem_cons_self ..⟩
instance (priority := 900) MemS.tail (f g : Fact) (S : List Fact) [h : MemS f S] : MemS f (g :: S) := ⟨List.mem_cons_of_mem _ h.mem⟩
theorem hp_cl {F : Nat → Prop} {w0 w : World} {O S : List Fact} (hp : Hp F w0 O S w) (fp : Nat → Prop) (A : Option Addr) (l : List ClassV) [h : MemS (clF fp A l) S] : Rd w 4 encCl A l ∧ ∀ c ∈ l, GoodC w c :=
  ⟨sl_fp (hp.shared _ h.mem).1.1 (hp.shared _ h.mem).2.1, fun c hc => ((hp.shared _ h.mem).1.2 c hc).good (hp.shared _ h.mem).2.1⟩
theorem hp_it {F : Nat → Prop} {w0 w : World} {O S : List Fact} (hp : Hp F w0 O S w) (fp : Nat → Prop) (x : ItemV) [h : MemS (itF fp [x]) S] : GoodI w x := it_good hp h.mem x (List.mem_cons_self ..)

/-! ### The ring -/
abbrev gemV (b : Nat) (s : ByteArray) : ItemV := .mk sGem (at0 b) 1 [s] none 0 []
abbrev ringV (b : Nat) (s : ByteArray) (g : Nat) (parts : List ItemV) : ItemV := .mk sRing (at0 b) 2 [sGold, s] (at0 g) parts.length parts
abbrev mEx : List Meas := [⟨2, 1⟩, ⟨5, 4⟩]
abbrev tEx : List Int := [100, 1000]
abbrev fEx (b c : Nat) : List FakeV := [⟨at0 b, 2, [⟨90, 93⟩, ⟨900, 1100⟩]⟩, ⟨at0 c, 2, [⟨95, 105⟩, ⟨1016, 1030⟩]⟩]
abbrev rEx (b c : Nat) : List ListV := [⟨at0 b, 2, [100, 1000]⟩, ⟨at0 c, 2, [103, -1]⟩]
abbrev sTx1 : ByteArray := ⟨#[114, 105, 110, 103, 32, 109, 101, 116, 97, 108, 61, 103, 111, 108, 100, 32, 40, 32, 103, 101, 109, 32, 99, 117, 116, 61, 114, 111, 117, 110, 100, 32, 59, 32, 103, 101, 109, 32, 41]⟩
abbrev sTx2 : ByteArray := ⟨#[114, 105, 110, 103, 32, 109, 101, 116, 97, 108, 61, 103, 111, 108, 100, 32, 40, 32, 103, 101, 109, 32, 59, 32, 103, 101, 109, 32, 99, 117, 116, 61, 114, 111, 117, 110, 100, 32, 41]⟩
theorem ex_gram (a : GrA) : gramOk (gramV a) = true := by kernel_rfl
theorem ex_ask (a : GrA) (b g c d : Nat) : askIE (gramV a) [ringV b sNone g [gemV c sRound, gemV d sNone]] = 0 := by kernel_rfl
theorem ex_prn (a : GrA) (b g c d : Nat) : PrnT (gramV a) (ringV b sNone g [gemV c sRound, gemV d sNone]) = sTx1 := by kernel_rfl
theorem ex_cntI (a : GrA) (b g c d : Nat) : CntI (gramV a) (ringV b sNone g [gemV c sRound, gemV d sNone]) = 3 := by kernel_rfl
theorem ex_cntS (a : GrA) (b g c d : Nat) : CntS (gramV a) (ringV b sNone g [gemV c sRound, gemV d sNone]) = 2 := by kernel_rfl
theorem ex_cov1 (a : GrA) (b g c d b2 g2 c2 d2 : Nat) : CovT (gramV a) (ringV b sNone g [gemV c sRound, gemV d sNone]) (ringV b2 sSmall g2 [gemV c2 sOval, gemV d2 sRound]) = true := by kernel_rfl
theorem ex_cov1e (a : GrA) (b g c d b2 g2 c2 d2 : Nat) : askIE (gramV a) [ringV b sNone g [gemV c sRound, gemV d sNone], ringV b2 sSmall g2 [gemV c2 sOval, gemV d2 sRound]] = 0 := by kernel_rfl
theorem ex_cov2 (a : GrA) (b g c d b2 g2 c2 : Nat) : CovT (gramV a) (ringV b sNone g [gemV c sRound, gemV d sNone]) (ringV b2 sNone g2 [gemV c2 sNone]) = false := by kernel_rfl
theorem ex_cov2e (a : GrA) (b g c d b2 g2 c2 : Nat) : askIE (gramV a) [ringV b sNone g [gemV c sRound, gemV d sNone], ringV b2 sNone g2 [gemV c2 sNone]] = 0 := by kernel_rfl
abbrev ringS : IT := .mk sRing [sGold, sNone] [.mk sGem [sNone] [], .mk sGem [sRound] []]
theorem ex_srt (a : GrA) (b g c d : Nat) : SrtT (gramV a) (ringV b sNone g [gemV c sRound, gemV d sNone]) = ringS := by kernel_rfl
theorem ex_narL (b c : Nat) : NarL mEx (rEx b c) = [⟨101, 102⟩, ⟨995, 1005⟩] := by kernel_rfl
theorem ex_narE (b c : Nat) : NarE mEx (rEx b c) = 0 := by kernel_rfl
theorem ex_lstS (b c : Nat) : LstS mEx tEx (fEx b c) = [0, 1] := by kernel_rfl
theorem ex_lstN (b c : Nat) : LstN mEx tEx (fEx b c) = 5 := by kernel_rfl
theorem ex_lstE (b c : Nat) : LstE mEx tEx (fEx b c) = 0 := by kernel_rfl
theorem ex_fndL (b : Nat) : FndL mEx tEx ⟨at0 b, 2, [⟨90, 93⟩, ⟨900, 1100⟩]⟩ = [0] := by kernel_rfl
theorem ex_fndE (b : Nat) : FndE mEx tEx ⟨at0 b, 2, [⟨90, 93⟩, ⟨900, 1100⟩]⟩ = 0 := by kernel_rfl
theorem ex_agrB : AgrB mEx tEx [104, 1010] = true := by kernel_rfl
theorem ex_agrE : AgrE mEx tEx [104, 1010] = 0 := by kernel_rfl
theorem ex_bndN (b c : Nat) : BndN mEx tEx (fEx b c) [1, 4] = 5 := by kernel_rfl
theorem ex_bndE (b c : Nat) : BndE mEx tEx (fEx b c) [1, 4] = 0 := by kernel_rfl
mutual
/-- what fits does not hang on where it lies -/
theorem fitsI_pl (g : List (ByteArray × ClassV)) : ∀ (x y : ItemV) (deep most : Int), x.pl = y.pl → fitsI g x deep most = fitsI g y deep most
  | .mk cls As cs says Ap cp parts, .mk cls' As' cs' says' Ap' cp' parts', deep, most, h => by
    rw [ItemV.pl, ItemV.pl] at h
    injection h with h1 h2 h3
    subst h1
    subst h2
    have hl : parts.length = parts'.length := by have := congrArg List.length h3; rwa [plL_map, plL_map, List.length_map, List.length_map] at this
    unfold fitsI
    rw [hl]
    split
    · rfl
    · rename_i c _
      rw [fitsL_pl g c.parts parts parts' deep most 1 h3]
theorem fitsL_pl (g : List (ByteArray × ClassV)) (cp : List ByteArray) : ∀ (l l' : List ItemV) (deep most many : Int), plL l = plL l' → fitsL g cp l deep most many = fitsL g cp l' deep most many
  | [], [], _, _, _, _ => rfl
  | [], _ :: _, _, _, _, h => by rw [plL, plL] at h; cases h
  | _ :: _, [], _, _, _, h => by rw [plL, plL] at h; cases h
  | p :: l, q :: l', deep, most, many, h => by
    rw [plL, plL] at h
    injection h with h1 h2
    have hc : p.cls = q.cls := by rw [← pl_cls, ← pl_cls, h1]
    unfold fitsL
    rw [hc, fitsI_pl g p q (deep + 1) (most - many) h1]
    split
    · split
      · rfl
      · rename_i n _
        exact fitsL_pl g cp l l' deep most (many + n) h2
    · rfl
end
theorem askOk_pl (l : List ClassV) {x y : ItemV} (h : x.pl = y.pl) : askIOk l [x] = askIOk l [y] := by
  unfold askIOk itemOk
  rw [List.all_cons, List.all_cons, fitsI_pl (gramM l) x y 1 24 h]
theorem askE_pl (l : List ClassV) {x y : ItemV} (h : x.pl = y.pl) : askIE l [x] = askIE l [y] := by
  unfold askIE itemOk
  rw [List.all_cons, List.all_cons, fitsI_pl (gramM l) x y 1 24 h]
theorem prn_pl (l : List ClassV) {x y : ItemV} (h : x.pl = y.pl) : PrnT l x = PrnT l y := by
  unfold PrnT; rw [askOk_pl l h, h]
abbrev ringC : ItemV := ringV 0 sNone 0 [gemV 0 sNone, gemV 0 sRound]
theorem ringC_pl : ringC.pl = ringS := by kernel_rfl
theorem ex_prn2 (a : GrA) {y : ItemV} (h : y.pl = ringS) : PrnT (gramV a) y = sTx2 := by
  rw [prn_pl (gramV a) (h.trans ringC_pl.symm)]; kernel_rfl
theorem ex_ask2 (a : GrA) {y : ItemV} (h : y.pl = ringS) : askIE (gramV a) [y] = 0 := by
  rw [askE_pl (gramV a) (h.trans ringC_pl.symm)]; kernel_rfl
theorem gem_good {w : World} {b : Nat} {s : ByteArray} (h : Rd w 1 enStr (at0 b) [s]) (hs : s.size ≤ 9223372036854775807) : GoodI w (gemV b s) :=
  .mk h Rd.nil (show ByteArray.size sGem ≤ 9223372036854775807 by decide) (fun t ht => by rw [List.mem_singleton.1 ht]; exact hs) (fun p hp => by cases hp)
theorem ring_good {w : World} {b g : Nat} {s : ByteArray} {parts : List ItemV} (h : Rd w 1 enStr (at0 b) [sGold, s]) (hs : s.size ≤ 9223372036854775807) (hp : Rd w 3 encIt (at0 g) parts) (hr : ∀ p ∈ parts, GoodI w p) : GoodI w (ringV b s g parts) :=
  .mk h hp (show ByteArray.size sRing ≤ 9223372036854775807 by decide) (fun t ht => by
    simp only [ItemV.says, List.mem_cons, List.mem_nil_iff, or_false] at ht
    rcases ht with rfl | rfl
    · decide
    · exact hs) hr
theorem eq_drop {α : Type} [DecidableEq α] (a b : List α) (k : Nat) (x y : α) (hx : a[k]? = some x) (hy : b[k]? = some y) : decide (a.drop k = b.drop k) = (decide (x = y) && decide (a.drop (k + 1) = b.drop (k + 1))) := by
  obtain ⟨h1, h2⟩ := List.getElem?_eq_some_iff.1 hx
  obtain ⟨h3, h4⟩ := List.getElem?_eq_some_iff.1 hy
  rw [List.drop_eq_getElem_cons h1, h2, List.drop_eq_getElem_cons h3, h4]
  by_cases h : x = y <;> by_cases h5 : a.drop (k + 1) = b.drop (k + 1) <;> simp [h, h5]
theorem eq_len {α : Type} [DecidableEq α] {a b : List α} (h : ¬ (a.length : Int) = b.length) : decide (a = b) = false := decide_eq_false (fun e => h (by rw [e]))
theorem sp_neq (x y : Span) : (!((x.lo == y.lo) && (x.hi == y.hi))) = !(decide (x = y)) := by
  obtain ⟨a, b⟩ := x; obtain ⟨c, d⟩ := y
  by_cases h : a = c <;> by_cases h2 : b = d <;> simp [h, h2]
end Go.Proofs.YtlfbghkcfmcnlaaGreatDoor
