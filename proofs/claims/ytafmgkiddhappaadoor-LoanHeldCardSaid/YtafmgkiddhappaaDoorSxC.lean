/- Rules for the operations that touch no memory or only read it. Conditions: none; a library of lemmas. -/
import Derived.Test.YtafmgkiddhappaaDoorSxB
namespace Go.Sx
open Go.RowKit

section
variable {C : Cx} {L : Regs} {O S : List Fact} {dst : Option Tmp} {ty : TypeId} {pos : String} {aft : Array Edge} {gu : Option (Nat × Bool)}

theorem yi_val {o : Oper} {v : Value} (hnd : ∀ c, o.op ≠ .defer c) (h : ∀ a w, RegsOk C.N C.D L a → Hp C.F C.w0 O S w → (execOp a.eval o).run C.P w = .ok (.value v) w) : Yi C o L O S v :=
  ⟨hnd, fun a w hr hp => by unfold YieldsV; rw [h a w hr hp]; exact ⟨rfl, rfl⟩⟩

theorem y_move {x : Operand} {v : Value} (h : val L x = some v) : Yi C ⟨dst, .move x, ty, pos, aft, gu⟩ L O S v :=
  yi_val (by intro c h; cases h) fun a w hr _ => by simp [execOp, hr.val h]
theorem y_assign {x : Operand} {v : Value} (h : val L x = some v) : Yi C ⟨dst, .assign x, ty, pos, aft, gu⟩ L O S v :=
  yi_val (by intro c h; cases h) fun a w hr _ => by simp [execOp, hr.val h]

theorem eval_any {a : Act} (x : Operand) : ∃ v, a.eval x = v := ⟨_, rfl⟩
/-- 'a && b' -/
theorem y_and {c x y : Operand} {g b : Bool} (hc : val L c = some (.bool g)) (hx : val L x = some (gd g true (.bool b))) (hy : val L y = some (.bool false)) : Yi C ⟨dst, .pick c x y, ty, pos, aft, gu⟩ L O S (.bool (g && b)) :=
  yi_val (by intro c h; cases h) fun a w hr _ => by
    simp only [execOp, hr.val hc, hr.val hx, hr.val hy]
    cases g <;> simp [asBool, gd]
/-- 'a || b' -/
theorem y_or {c x y : Operand} {g b : Bool} (hc : val L c = some (.bool g)) (hx : val L x = some (.bool true)) (hy : val L y = some (gd g false (.bool b))) : Yi C ⟨dst, .pick c x y, ty, pos, aft, gu⟩ L O S (.bool (g || b)) :=
  yi_val (by intro c h; cases h) fun a w hr _ => by
    simp only [execOp, hr.val hc, hr.val hx, hr.val hy]
    cases g <;> simp [asBool, gd]

theorem y_not {t : TypeId} {x : Operand} {b : Bool} (h : val L x = some (.bool b)) : Yi C ⟨dst, .unOp .not t x, ty, pos, aft, gu⟩ L O S (.bool (!b)) :=
  yi_val (by intro c h; cases h) fun a w hr _ => by simp [execOp, hr.val h, Op.unary]
theorem y_neg {t : TypeId} {x : Operand} {n : Int} (h : val L x = some (.int .i64 n)) (hn : -9223372036854775807 ≤ n ∧ n ≤ 9223372036854775807) : Yi C ⟨dst, .unOp .neg t x, ty, pos, aft, gu⟩ L O S (.int .i64 (-n)) :=
  yi_val (by intro c h; cases h) fun a w hr _ => by
    have : IntKind.i64.wrap (0 - n) = -n := by rw [IntWalk.i64_in _ (by omega)]; omega
    simp only [execOp, hr.val h, Op.unary, Op.intArith, Sem.run_bind, Sem.run_pure, Result.andThen_ok, this]

/-! Integers -/
section
variable {t t' : TypeId} {x y : Operand} {k : IntKind} {m n : Int}
theorem y_lss (hx : val L x = some (.int k m)) (hy : val L y = some (.int k n)) : Yi C ⟨dst, .binOp .lss t x y t', ty, pos, aft, gu⟩ L O S (.bool (decide (m < n))) :=
  yi_val (by intro c h; cases h) fun a w hr _ => by simp [execOp, hr.val hx, hr.val hy, eqGuard, binOp_lss]
theorem y_leq (hx : val L x = some (.int k m)) (hy : val L y = some (.int k n)) : Yi C ⟨dst, .binOp .leq t x y t', ty, pos, aft, gu⟩ L O S (.bool (decide (m ≤ n))) :=
  yi_val (by intro c h; cases h) fun a w hr _ => by simp [execOp, hr.val hx, hr.val hy, eqGuard, binOp_leq]
theorem y_gtr (hx : val L x = some (.int k m)) (hy : val L y = some (.int k n)) : Yi C ⟨dst, .binOp .gtr t x y t', ty, pos, aft, gu⟩ L O S (.bool (decide (n < m))) :=
  yi_val (by intro c h; cases h) fun a w hr _ => by simp [execOp, hr.val hx, hr.val hy, eqGuard, binOp_gtr]
theorem y_geq (hx : val L x = some (.int k m)) (hy : val L y = some (.int k n)) : Yi C ⟨dst, .binOp .geq t x y t', ty, pos, aft, gu⟩ L O S (.bool (decide (n ≤ m))) :=
  yi_val (by intro c h; cases h) fun a w hr _ => by simp [execOp, hr.val hx, hr.val hy, eqGuard, binOp_geq]
theorem y_eql (hx : val L x = some (.int k m)) (hy : val L y = some (.int k n)) : Yi C ⟨dst, .binOp .eql t x y t', ty, pos, aft, gu⟩ L O S (.bool (m == n)) :=
  yi_val (by intro c h; cases h) fun a w hr _ => by simp [execOp, hr.val hx, hr.val hy, eqGuard, binOp_eql]
theorem y_neq (hx : val L x = some (.int k m)) (hy : val L y = some (.int k n)) : Yi C ⟨dst, .binOp .neq t x y t', ty, pos, aft, gu⟩ L O S (.bool (m != n)) :=
  yi_val (by intro c h; cases h) fun a w hr _ => by simp [execOp, hr.val hx, hr.val hy, eqGuard, binOp_neq]

theorem y_addw (hx : val L x = some (.int k m)) (hy : val L y = some (.int k n)) : Yi C ⟨dst, .binOp .add t x y t', ty, pos, aft, gu⟩ L O S (.int k (k.wrap (m + n))) :=
  yi_val (by intro c h; cases h) fun a w hr _ => by simp [execOp, hr.val hx, hr.val hy, eqGuard, binOp_add, Op.intArith]
theorem y_subw (hx : val L x = some (.int k m)) (hy : val L y = some (.int k n)) : Yi C ⟨dst, .binOp .sub t x y t', ty, pos, aft, gu⟩ L O S (.int k (k.wrap (m - n))) :=
  yi_val (by intro c h; cases h) fun a w hr _ => by simp [execOp, hr.val hx, hr.val hy, eqGuard, binOp_sub, Op.intArith]
theorem y_mulw (hx : val L x = some (.int k m)) (hy : val L y = some (.int k n)) : Yi C ⟨dst, .binOp .mul t x y t', ty, pos, aft, gu⟩ L O S (.int k (k.wrap (m * n))) :=
  yi_val (by intro c h; cases h) fun a w hr _ => by simp [execOp, hr.val hx, hr.val hy, eqGuard, binOp_mul, Op.intArith]
theorem y_add (hx : val L x = some (.int .i64 m)) (hy : val L y = some (.int .i64 n)) (h : -9223372036854775808 ≤ m + n ∧ m + n ≤ 9223372036854775807) : Yi C ⟨dst, .binOp .add t x y t', ty, pos, aft, gu⟩ L O S (.int .i64 (m + n)) := by
  have := y_addw (C := C) (O := O) (S := S) (dst := dst) (t := t) (t' := t') (ty := ty) (pos := pos) (aft := aft) (gu := gu) hx hy
  rwa [IntWalk.i64_in _ h] at this
theorem y_sub (hx : val L x = some (.int .i64 m)) (hy : val L y = some (.int .i64 n)) (h : -9223372036854775808 ≤ m - n ∧ m - n ≤ 9223372036854775807) : Yi C ⟨dst, .binOp .sub t x y t', ty, pos, aft, gu⟩ L O S (.int .i64 (m - n)) := by
  have := y_subw (C := C) (O := O) (S := S) (dst := dst) (t := t) (t' := t') (ty := ty) (pos := pos) (aft := aft) (gu := gu) hx hy
  rwa [IntWalk.i64_in _ h] at this
theorem y_mul (hx : val L x = some (.int .i64 m)) (hy : val L y = some (.int .i64 n)) (h : -9223372036854775808 ≤ m * n ∧ m * n ≤ 9223372036854775807) : Yi C ⟨dst, .binOp .mul t x y t', ty, pos, aft, gu⟩ L O S (.int .i64 (m * n)) := by
  have := y_mulw (C := C) (O := O) (S := S) (dst := dst) (t := t) (t' := t') (ty := ty) (pos := pos) (aft := aft) (gu := gu) hx hy
  rwa [IntWalk.i64_in _ h] at this
theorem y_quow (hx : val L x = some (.int k m)) (hy : val L y = some (.int k n)) (hn : n ≠ 0) : Yi C ⟨dst, .binOp .quo t x y t', ty, pos, aft, gu⟩ L O S (.int k (k.wrap (m.tdiv n))) :=
  yi_val (by intro c h; cases h) fun a w hr _ => by simp [execOp, hr.val hx, hr.val hy, eqGuard, binOp_quo, Op.intDiv, hn]
theorem y_remw (hx : val L x = some (.int k m)) (hy : val L y = some (.int k n)) (hn : n ≠ 0) : Yi C ⟨dst, .binOp .rem t x y t', ty, pos, aft, gu⟩ L O S (.int k (m.tmod n)) :=
  yi_val (by intro c h; cases h) fun a w hr _ => by simp [execOp, hr.val hx, hr.val hy, eqGuard, binOp_rem, Op.intDiv, hn]
/-- A quotient by a number from 1 on, of any int. -/
theorem y_quot (hx : val L x = some (.int .i64 m)) (hy : val L y = some (.int .i64 n)) (hn : 1 ≤ n) (hm : -9223372036854775808 ≤ m ∧ m ≤ 9223372036854775807) : Yi C ⟨dst, .binOp .quo t x y t', ty, pos, aft, gu⟩ L O S (.int .i64 (m.tdiv n)) := by
  have := y_quow (C := C) (O := O) (S := S) (dst := dst) (t := t) (t' := t') (ty := ty) (pos := pos) (aft := aft) (gu := gu) hx hy (by omega)
  rwa [IntWalk.i64_in _ (by
    have h1 : (m.tdiv n).natAbs ≤ m.natAbs := by rw [Int.natAbs_tdiv]; exact Nat.div_le_self _ _
    by_cases h0 : 0 ≤ m
    · have := Int.tdiv_nonneg h0 (by omega : 0 ≤ n); omega
    · have h2 : 0 ≤ (-m).tdiv n := Int.tdiv_nonneg (by omega) (by omega)
      rw [Int.neg_tdiv] at h2
      omega)] at this
theorem y_quo (hx : val L x = some (.int .i64 m)) (hy : val L y = some (.int .i64 n)) (h : 0 ≤ m ∧ m ≤ 9223372036854775807 ∧ 1 ≤ n) : Yi C ⟨dst, .binOp .quo t x y t', ty, pos, aft, gu⟩ L O S (.int .i64 (m / n)) := by
  have := y_quow (C := C) (O := O) (S := S) (dst := dst) (t := t) (t' := t') (ty := ty) (pos := pos) (aft := aft) (gu := gu) hx hy (by omega)
  rwa [IntWalk.i64_quo _ _ h] at this
theorem y_rem (hx : val L x = some (.int .i64 m)) (hy : val L y = some (.int .i64 n)) (h : 0 ≤ m) (hn : n ≠ 0) : Yi C ⟨dst, .binOp .rem t x y t', ty, pos, aft, gu⟩ L O S (.int .i64 (m % n)) := by
  have := y_remw (C := C) (O := O) (S := S) (dst := dst) (t := t) (t' := t') (ty := ty) (pos := pos) (aft := aft) (gu := gu) hx hy hn
  rwa [Int.tmod_eq_emod_of_nonneg h] at this

theorem y_min {ts : Array TypeId} (hx : val L x = some (.int k m)) (hy : val L y = some (.int k n)) : Yi C ⟨dst, .call ⟨.builtin .min, #[x, y], ts⟩, ty, pos, aft, gu⟩ L O S (.int k (min m n)) :=
  yi_val (by intro c h; cases h) fun a w hr _ => by
    have e : (if n < m then n else m) = min m n := by omega
    simp [execOp, resolve, invoke, builtin, Builtin.min_, Builtin.min2, hr.val hx, hr.val hy, e]
theorem y_max {ts : Array TypeId} (hx : val L x = some (.int k m)) (hy : val L y = some (.int k n)) : Yi C ⟨dst, .call ⟨.builtin .max, #[x, y], ts⟩, ty, pos, aft, gu⟩ L O S (.int k (max m n)) :=
  yi_val (by intro c h; cases h) fun a w hr _ => by
    have e : (if m < n then n else m) = max m n := by omega
    simp [execOp, resolve, invoke, builtin, Builtin.max_, Builtin.max2, hr.val hx, hr.val hy, e]
/-- A conversion between integer types of one kind. -/
theorem y_conv {d : TypeDesc} {ka : IntKind} (hs : C.P.underlying t = some d) (hd : C.P.underlying t' = some (.int k)) (hx : val L x = some (.int ka m)) : Yi C ⟨dst, .convert t t' x, ty, pos, aft, gu⟩ L O S (.int k (k.wrap m)) :=
  yi_val (by intro c h; cases h) fun a w hr _ => by simp [execOp, hr.val hx, convert, run_underlying hs, run_underlying hd, Conv.intToInt]
theorem y_conv64 {d : TypeDesc} {ka : IntKind} (hs : C.P.underlying t = some d) (hd : C.P.underlying t' = some (.int .i64)) (hx : val L x = some (.int ka m)) (h : -9223372036854775808 ≤ m ∧ m ≤ 9223372036854775807) : Yi C ⟨dst, .convert t t' x, ty, pos, aft, gu⟩ L O S (.int .i64 m) := by
  have := y_conv (C := C) (O := O) (S := S) (dst := dst) (ty := ty) (pos := pos) (aft := aft) (gu := gu) hs hd hx
  rwa [IntWalk.i64_in _ h] at this
end

/-! Bools, strings -/
section
variable {t t' : TypeId} {x y : Operand}
theorem y_eqlB {b c : Bool} (ht : C.P.underlying t = some .bool) (hx : val L x = some (.bool b)) (hy : val L y = some (.bool c)) : Yi C ⟨dst, .binOp .eql t x y t', ty, pos, aft, gu⟩ L O S (.bool (b == c)) :=
  yi_val (by intro c h; cases h) fun a w hr _ => by simp [execOp, hr.val hx, hr.val hy, eqGuard, binOp, Op.equal, Op.maxDepth, run_equalIn_bool w 9999 t _ _ ht]
theorem y_neqB {b c : Bool} (ht : C.P.underlying t = some .bool) (hx : val L x = some (.bool b)) (hy : val L y = some (.bool c)) : Yi C ⟨dst, .binOp .neq t x y t', ty, pos, aft, gu⟩ L O S (.bool (!(b == c))) :=
  yi_val (by intro c h; cases h) fun a w hr _ => by simp [execOp, hr.val hx, hr.val hy, eqGuard, binOp, Op.equal, Op.maxDepth, run_equalIn_bool w 9999 t _ _ ht]
theorem y_eqlS {s u : ByteArray} (hx : val L x = some (.string s)) (hy : val L y = some (.string u)) : Yi C ⟨dst, .binOp .eql t x y t', ty, pos, aft, gu⟩ L O S (.bool (s == u)) :=
  yi_val (by intro c h; cases h) fun a w hr _ => by simp [execOp, hr.val hx, hr.val hy, eqGuard, binOp, Op.stringOp, beq_toListBytes]
theorem y_neqS {s u : ByteArray} (hx : val L x = some (.string s)) (hy : val L y = some (.string u)) : Yi C ⟨dst, .binOp .neq t x y t', ty, pos, aft, gu⟩ L O S (.bool (!(s == u))) :=
  yi_val (by intro c h; cases h) fun a w hr _ => by simp [execOp, hr.val hx, hr.val hy, eqGuard, binOp, Op.stringOp, beq_toListBytes]
theorem y_lenS {ts : TypeId} {s : ByteArray} (ht : C.P.underlying ts = some .string) (hx : val L x = some (.string s)) : Yi C ⟨dst, .call ⟨.builtin .len, #[x], #[ts]⟩, ty, pos, aft, gu⟩ L O S (.int .i64 s.size) :=
  yi_val (by intro c h; cases h) fun a w hr _ => by simp [execOp, resolve, invoke, builtin, Builtin.len_, hr.val hx, run_underlying ht, goInt]
theorem y_lenA {ts e : TypeId} {A : Option Addr} {n c : Nat} (ht : C.P.underlying ts = some (.slice e)) (hx : val L x = some (.slice A n c)) : Yi C ⟨dst, .call ⟨.builtin .len, #[x], #[ts]⟩, ty, pos, aft, gu⟩ L O S (.int .i64 n) :=
  yi_val (by intro c h; cases h) fun a w hr _ => by simp [execOp, resolve, invoke, builtin, Builtin.len_, hr.val hx, run_underlying ht, goInt]
theorem y_indexS {i : Int} {k : IntKind} {s : ByteArray} {b : UInt8} (ht : C.P.underlying t = some .string) (hx : val L x = some (.string s)) (hy : val L y = some (.int k i)) (h0 : 0 ≤ i) (hb : s[i.toNat]? = some b) :
    Yi C ⟨dst, .index t x y, ty, pos, aft, gu⟩ L O S (.int .u8 b.toNat) :=
  yi_val (by intro c h; cases h) fun a w hr _ => by simp [execOp, hr.val hx, hr.val hy, Instr.index, asIntOf, run_underlying ht, h0, hb]
end

/-! Aggregates -/
section
variable {t : TypeId} {x : Operand}
theorem y_extract {vs : List Value} {i : Nat} {v : Value} (hx : val L x = some (.tuple vs.toArray)) (hi : vs[i]? = some v) : Yi C ⟨dst, .extract x i, ty, pos, aft, gu⟩ L O S v :=
  yi_val (by intro c h; cases h) fun a w hr _ => by simp [execOp, hr.val hx, Instr.extract, hi]

/-- What the program says of a field: its offset; its type's cells; whether these are an aggregate. -/
structure FieldIs (P : Program) (s : TypeId) (i : Nat) (off n : Nat) (agg : Bool) : Prop where
  ex : ∃ fs f, P.underlying s = some (.struct fs) ∧ fs[i]? = some f ∧ f.offset = off ∧ (∀ w, (sizeOf f.type).run P w = .ok n w) ∧ (∀ w, (isAgg f.type).run P w = .ok agg w) ∧ n ≠ 0

theorem y_faw {s i off n : Nat} {agg : Bool} {ad : Addr} (hf : FieldIs C.P s i off n agg) (hx : val L x = some (.pointer (some ad))) : Yi C ⟨dst, .fieldAddr s x i, ty, pos, aft, gu⟩ L O S (.pointer (some (ad.add off))) :=
  yi_val (by intro c h; cases h) fun a w hr _ => by
    obtain ⟨fs, f, hu, hi, rfl, hs, _, hn⟩ := hf.ex
    simp [execOp, hr.val hx, Instr.fieldAt, run_underlying hu, hi, Instr.sureAddr, fieldPlace, hs, hn]
theorem addr_add (b k off : Nat) : (⟨b, k, none⟩ : Addr).add off = ⟨b, k + off, none⟩ := by
  unfold Addr.add; split
  · subst_vars; rfl
  · rfl
/-- A field of what lies at a known place. -/
theorem y_fa {s i off n b k : Nat} {agg : Bool} (hf : FieldIs C.P s i off n agg) (hx : val L x = some (.pointer (some ⟨b, k, none⟩))) : Yi C ⟨dst, .fieldAddr s x i, ty, pos, aft, gu⟩ L O S (.pointer (some ⟨b, k + off, none⟩)) := by
  have := y_faw (dst := dst) (ty := ty) (pos := pos) (aft := aft) (gu := gu) (O := O) (S := S) hf hx
  rwa [addr_add] at this
/-- The place behind the head of a slice. -/
def at_ (A : Option Addr) (n : Nat) : Addr := (A.getD ⟨0, 0, none⟩).add n
theorem at_add (A : Option Addr) (n m : Nat) : (at_ A n).add m = at_ A (n + m) := by
  unfold at_ Addr.add
  by_cases hi : n = 0 <;> by_cases hj : m = 0 <;> simp [hi, hj, Nat.add_assoc]
theorem y_faE {s i off n k : Nat} {agg : Bool} {A : Option Addr} (hf : FieldIs C.P s i off n agg) (hx : val L x = some (.pointer (some (at_ A k)))) : Yi C ⟨dst, .fieldAddr s x i, ty, pos, aft, gu⟩ L O S (.pointer (some (at_ A (k + off)))) := by
  have := y_faw (dst := dst) (ty := ty) (pos := pos) (aft := aft) (gu := gu) (O := O) (S := S) hf hx
  rwa [at_add] at this
theorem y_nil {ad : Addr} (hx : val L x = some (.pointer (some ad))) : Yi C ⟨dst, .nilCheck x, ty, pos, aft, gu⟩ L O S (.pointer (some ad)) :=
  yi_val (by intro c h; cases h) fun a w hr _ => by simp [execOp, hr.val hx]
theorem y_field1 {s i off : Nat} {cs : List Value} {v : Value} (hf : FieldIs C.P s i off 1 false) (hx : val L x = some (.agg cs.toArray)) (hv : cs[off]? = some v) : Yi C ⟨dst, .field s x i, ty, pos, aft, gu⟩ L O S v :=
  yi_val (by intro c h; cases h) fun a w hr _ => by
    obtain ⟨fs, f, hu, hi, rfl, hs, ha, _⟩ := hf.ex
    simp [execOp, hr.val hx, Instr.field, run_underlying hu, hi, asAgg, part, ha, hv]

/-- The element's place in a slice: its type has 'n' cells. -/
theorem y_ix {s e n N c : Nat} {A : Option Addr} {y : Operand} {i : Int} {k : IntKind} (hu : C.P.underlying s = some (.slice e)) (hs : ∀ w, (sizeOf e).run C.P w = .ok n w) (hx : val L x = some (.slice A N c)) (hy : val L y = some (.int k i)) (hi : 0 ≤ i ∧ i < N)
    (hA : A ≠ none) : Yi C ⟨dst, .indexAddr s x y, ty, pos, aft, gu⟩ L O S (.pointer (some (at_ A (i.toNat * n)))) :=
  yi_val (by intro c h; cases h) fun a w hr _ => by
    cases A with
    | none => exact absurd rfl hA
    | some ad => simp [execOp, hr.val hx, hr.val hy, Instr.indexAt, asIntOf, run_underlying hu, hi, hs, at_]
end
end

/-! ### Lists' parts, by instances: 'n' of the cells from the k-th on; some of them set -/
class Tk (n k : Nat) (cs : List Value) (vs : outParam (List Value)) : Prop where
  eq : ∀ j, j < n → cs[k + j]? = vs[j]?
  len : vs.length = n
instance Tk.nil (cs : List Value) : Tk 0 0 cs [] := ⟨by simp, rfl⟩
instance Tk.take (n : Nat) (c : Value) (cs vs : List Value) [h : Tk n 0 cs vs] : Tk (n + 1) 0 (c :: cs) (c :: vs) := ⟨fun j hj => by
  cases j with
  | zero => simp
  | succ j => have := h.eq j (by omega); simpa using this, by simp [h.len]⟩
instance Tk.drop (n k : Nat) (c : Value) (cs vs : List Value) [h : Tk n k cs vs] : Tk n (k + 1) (c :: cs) vs := ⟨fun j hj => by
  have := h.eq j hj
  rw [← this, show k + 1 + j = (k + j) + 1 by omega]
  simp, h.len⟩

class SetC (k : Nat) (vs cs : List Value) (cs' : outParam (List Value)) : Prop where
  eq : ∀ j, cs'[j]? = if k ≤ j ∧ j < k + vs.length then vs[j - k]? else cs[j]?
  len : cs'.length = cs.length
  fit : k + vs.length ≤ cs.length
instance SetC.nil (cs : List Value) : SetC 0 [] cs cs := ⟨fun j => by rw [if_neg (by simp)], rfl, by simp⟩
instance SetC.put (v c : Value) (vs cs cs' : List Value) [h : SetC 0 vs cs cs'] : SetC 0 (v :: vs) (c :: cs) (v :: cs') := ⟨fun j => by
  cases j with
  | zero => simp
  | succ j => have := h.eq j; simp only [List.getElem?_cons_succ, this]; simp, by simp [h.len], by have := h.fit; simp at this ⊢; omega⟩
instance SetC.skip (k : Nat) (c : Value) (vs cs cs' : List Value) [h : SetC k vs cs cs'] : SetC (k + 1) vs (c :: cs) (c :: cs') := ⟨fun j => by
  cases j with
  | zero => rw [if_neg (by omega)]; simp
  | succ j =>
    have := h.eq j
    simp only [List.getElem?_cons_succ, this]
    by_cases hj : k ≤ j ∧ j < k + vs.length
    · rw [if_pos hj, if_pos (by omega)]; congr 1; omega
    · rw [if_neg hj, if_neg (by omega)], by simp [h.len], by have := h.fit; simp; omega⟩

/-! ### A block of the function's own, known whole -/
def ownB (b : Nat) (ob : Obj) : Fact := ⟨fun i => i = b, fun w => w.heap[b]? = some ob, fun h hP => (h b rfl).trans hP⟩
/-- A block of cells. -/
abbrev cellsB (e : TypeId) (cs : List Value) : Obj := .cells cs.toArray e (0, 0)

class HasB (O : List Fact) (b : Nat) (ob : outParam Obj) : Prop where
  mem : ownB b ob ∈ O
instance (priority := 900) HasB.tail (f : Fact) (O : List Fact) (b : Nat) (ob : Obj) [h : HasB O b ob] : HasB (f :: O) b ob := ⟨List.mem_cons_of_mem _ h.mem⟩
instance (priority := 1000) HasB.head (O : List Fact) (b : Nat) (ob : Obj) : HasB (ownB b ob :: O) b ob := ⟨List.mem_cons_self ..⟩

class UpdB (O : List Fact) (b : Nat) (ob : outParam Obj) (ob' : Obj) (O' : outParam (List Fact)) : Prop where
  rep : Rep O (ownB b ob) (ownB b ob') O'
instance (priority := 900) UpdB.tail (f : Fact) (O O' : List Fact) (b : Nat) (ob ob' : Obj) [h : UpdB O b ob ob' O'] : UpdB (f :: O) b ob ob' (f :: O') := ⟨.tail _ _ _ _ _ h.rep⟩
instance (priority := 1000) UpdB.head (O : List Fact) (b : Nat) (ob ob' : Obj) : UpdB (ownB b ob :: O) b ob ob' (ownB b ob' :: O) := ⟨.head _ _ _⟩

section
variable {C : Cx} {L : Regs} {O S : List Fact} {dst : Option Tmp} {ty : TypeId} {pos : String} {aft : Array Edge} {gu : Option (Nat × Bool)} {t : TypeId} {x : Operand}

theorem Hp.hasB {F : Nat → Prop} {w0 w : World} (hp : Hp F w0 O S w) {b : Nat} {ob : Obj} (h : ownB b ob ∈ O) : w.heap[b]? = some ob := (hp.own _ h).1

theorem y_load1 {b k e : Nat} {cs : List Value} {v : Value} [h : HasB O b (cellsB e cs)] (ha : ∀ w, (isAgg t).run C.P w = .ok false w) (hx : val L x = some (.pointer (some ⟨b, k, none⟩))) (hv : cs[k]? = some v) :
    Yi C ⟨dst, .load t x, ty, pos, aft, gu⟩ L O S v :=
  yi_val (by intro c h; cases h) fun a w hr hp => by
    have hc : w.cell? ⟨b, k, none⟩ = some v := by rw [cell_of_row w b k cs.toArray e (0, 0) (hp.hasB h.mem)]; simpa using hv
    simp [execOp, hr.val hx, Instr.loadAt, Instr.sureAddr, loadVar, ha, hc]
theorem y_loadN {b k e n : Nat} {cs vs : List Value} [h : HasB O b (cellsB e cs)] (ha : ∀ w, (isAgg t).run C.P w = .ok true w) (hs : ∀ w, (sizeOf t).run C.P w = .ok n w) (hx : val L x = some (.pointer (some ⟨b, k, none⟩))) [hv : Tk n k cs vs] :
    Yi C ⟨dst, .load t x, ty, pos, aft, gu⟩ L O S (.agg vs.toArray) :=
  yi_val (by intro c h; cases h) fun a w hr hp => by
    have hl : (loadCells ⟨b, k, none⟩ n).run C.P w = .ok vs.toArray w := by
      rw [← hv.len]
      refine run_loadCells_list (P := C.P) w ⟨b, k, none⟩ vs fun j v hj => ?_
      have hjn : j < n := by have := (List.getElem?_eq_some_iff.1 hj).1; rw [hv.len] at this; exact this
      rw [addr_add, cell_of_row w b (k + j) cs.toArray e (0, 0) (hp.hasB h.mem)]
      simpa [hv.eq j hjn] using hj
    simp [execOp, hr.val hx, Instr.loadAt, Instr.sureAddr, loadVar, ha, hs, hl]
end
end Go.Sx
