/- Elements of arrays that lie in registers, several cells each; ways out of what panics. Conditions: none; a library of lemmas. -/
import Derived.Test.YtafmgkiddhappaaDoorYSx3
namespace Go.Sx
open Go.RowKit
section
variable {C : Cx} {Q : Exit → Act → World → Prop} {L : Regs} {O S : List Fact} {ops : Array Oper} {rest : List Oper} {ty : TypeId} {pos : String} {aft : Array Edge} {dst : Option Tmp} {gu : Option (Nat × Bool)} {t : TypeId} {x y : Operand}
theorem take_tk {n k : Nat} {cs vs : List Value} (h : Tk n k cs vs) : (cs.drop k).take n = vs := by
  refine List.ext_getElem? fun j => ?_
  rw [List.getElem?_take]
  by_cases hj : j < n
  · rw [if_pos hj, List.getElem?_drop, h.eq j hj]
  · rw [if_neg hj, List.getElem?_eq_none (by rw [h.len]; omega)]
/-- An element of an array that lies in a register, several cells each. -/
theorem y_indexAN {e n m : Nat} {i : Int} {k : IntKind} {cs vs : List Value} (ht : C.P.underlying t = some (.array m e)) (hs : ∀ w, (sizeOf e).run C.P w = .ok n w) (ha : ∀ w, (isAgg e).run C.P w = .ok true w) (hx : val L x = some (.agg cs.toArray)) (hy : val L y = some (.int k i)) (hi : 0 ≤ i ∧ i < m) (hv : Tk n (i.toNat * n) cs vs) :
    Yi C ⟨dst, .index t x y, ty, pos, aft, gu⟩ L O S (.agg vs.toArray) :=
  yi_val (by intro c h; cases h) fun a w hr _ => by
    have he := take_tk hv
    simp [execOp, hr.val hx, hr.val hy, Instr.index, asIntOf, run_underlying ht, hi, part, hs, ha, he]
theorem ej_retC3 {fn : Func} {R : Ending → World → Prop} {p u1 u2 : Tmp} {t : TypeId} {a : Addr} {v x1 x2 : Value} (hD : C.D = []) (h : fn.results = #[.cell p t, .tmp u1, .tmp u2]) (hx : val L (.tmp p) = some (.pointer (some a))) (hy : Yi C ⟨none, .load t (.tmp p), 0, "", #[], none⟩ L O S v)
    (h1 : look L u1 = some x1) (h2 : look L u2 = some x2) (hR : ∀ w, Hp C.F C.w0 O S w → R (.returned (.tuple #[v, x1, x2])) w) :
    EJ C (bodyPost C.P fn R) .ret L O S := fun ac w hr hp => ⟨hr.defers.trans hD, _, by
      have h0 := getQ_of_look hr hx
      simp [results, h, h0, getQ_of_look hr h1, getQ_of_look hr h2, asAddr, yi_loadVar hx hy hr hp], hR w hp⟩
theorem tk_all (cs : List Value) {n : Nat} (h : cs.length = n) : Tk n 0 cs cs := ⟨fun j _ => by rw [Nat.zero_add], h⟩
theorem set_all (vs cs : List Value) (h : vs.length = cs.length) : SetC 0 vs cs vs := ⟨fun j => by
  by_cases hj : j < vs.length
  · rw [if_pos ⟨Nat.zero_le _, by omega⟩]; rfl
  · rw [if_neg (by omega), List.getElem?_eq_none (by omega), List.getElem?_eq_none (by omega)], h, by omega⟩
/-- == of two arrays, element by element. -/
theorem run_eq_arr {P : Program} {e len n d : Nat} {xs ys : Array Value} (q : Nat → Bool) (ht : P.underlying t = some (.array len e)) (hs : ∀ w, (sizeOf e).run P w = .ok n w)
    (hq : ∀ i, i < len → ∀ w, ∃ a b, (part e xs (i * n)).run P w = .ok a w ∧ (part e ys (i * n)).run P w = .ok b w ∧ (Op.equalIn d e a b).run P w = .ok (q i) w) (w : World) : (Op.equalIn (d + 1) t (.agg xs) (.agg ys)).run P w = .ok ((List.range len).all q) w := by
  simp only [Op.equalIn, Sem.run_bind, run_underlying ht, Result.andThen_ok, hs]
  simp only [Std.Legacy.Range.forIn_eq_forIn_range', Std.Legacy.Range.size, Nat.sub_zero, Nat.add_one_sub_one, Nat.div_one]
  rw [List.range_eq_range']
  have hq' : ∀ i ∈ List.range' 0 len, ∀ w, ∃ a b, (part e xs (i * n)).run P w = .ok a w ∧ (part e ys (i * n)).run P w = .ok b w ∧ (Op.equalIn d e a b).run P w = .ok (q i) w := fun i hi => hq i (by simpa using List.mem_range'_1.1 hi)
  generalize List.range' 0 len = is at hq'
  induction is with
  | nil => simp
  | cons i is ih =>
    obtain ⟨a, b, h1, h2, h3⟩ := hq' i (List.mem_cons_self ..) w
    simp only [List.forIn_cons, Sem.run_bind, h1, h2, h3, Result.andThen_ok, List.all_cons]
    cases q i with
    | false => simp
    | true => simpa using ih (fun j hj => hq' j (List.mem_cons_of_mem _ hj))
/-- The beginning of a slice. -/
theorem addr_zero (a : Addr) : a.add 0 = a := by cases a; simp [Addr.add]
theorem y_sliceTo {α : Type} {e sz c : Nat} {A : Option Addr} {xs : List α} (h : Nat) (hu : C.P.underlying t = some (.slice e)) (hs : ∀ w, (sizeOf e).run C.P w = .ok sz w) (hx : val L x = some (.slice A xs.length c)) (hy : val L y = some (.int .i64 (h : Nat))) (hh : h ≤ xs.length) (hc : xs.length ≤ c) :
    Yi C ⟨dst, .slice t x none (some y) none, ty, pos, aft, gu⟩ L O S (.slice A (xs.take h).length c) := by
  have h1 := y_slice (C := C) (O := O) (S := S) (dst := dst) (ty := ty) (pos := pos) (aft := aft) (gu := gu) (lo := none) (hi := some y) (l := 0) (h := h) hu hs hx rfl hy (Nat.zero_le _) (by omega)
  have e1 : (if c = 0 then A else A.map (·.add (0 * sz))) = A := by
    rw [Nat.zero_mul]
    cases A with
    | none => simp
    | some a => simp [addr_zero]
  rw [e1, Nat.sub_zero, Nat.sub_zero] at h1
  rw [List.length_take, Nat.min_eq_left hh]
  exact h1
theorem sl_take {α : Type} {fp : Nat → Prop} {sz : Nat} {enc : α → List Value} {A : Option Addr} {xs : List α} {w : World} (h : (sl fp sz enc A xs).P w) (n : Nat) : (sl fp sz enc A (xs.take n)).P w :=
  ⟨Nat.le_trans (by rw [List.length_take]; omega) h.1, fun hne => by
    obtain ⟨a, ha, hb, hc⟩ := h.2 (fun he => hne (by rw [he, List.take_nil]))
    refine ⟨a, ha, hb, fun i x j u hx hu => hc i x j u ?_ hu⟩
    rw [List.getElem?_take] at hx
    split at hx
    · exact hx
    · cases hx⟩
/-- An array of zero values. -/
theorem y_buildA0 {e n sz : Nat} {z : Value} {cs : List Value} (hu : C.P.underlying t = some (.array n e)) (hs : ∀ w, (sizeOf e).run C.P w = .ok sz w) (hz : ∀ w, (zeroValue t).run C.P w = .ok z w) (hc : z.cells = cs.toArray) : Yi C ⟨dst, .build t #[], ty, pos, aft, gu⟩ L O S (.agg cs.toArray) :=
  yi_val (by intro c h; cases h) fun a w hr _ => by
    simp only [execOp, Instr.build, Sem.run_bind, hz, Result.andThen_ok, run_underlying hu, hs, hc]
    simp [Instr.fill]
/-- What a map holds at a key that it has. -/
theorem y_lookupG {K V : Type} {ek : K → Value} {ev : V → Value} {kd : TypeDesc} {kt et : TypeId} {b : Nat} {l : List (K × V)} {kk : K} {v : V} [DecidableEq K] (d0 : V) (hat : getL l kk = some v) [hk : KeyE ek kd] [h : HasMp O b ek ev l] (ht : C.P.underlying t = some (.map kt et)) (hkt : C.P.underlying kt = some kd) (hz : ∀ w, (zeroValue et).run C.P w = .ok (ev d0) w)
    (hx : val L x = some (.map (some b))) (hy : val L y = some (ek kk)) : Yi C ⟨dst, .lookup t x y false, ty, pos, aft, gu⟩ L O S (ev v) := by
  have h1 := y_lookup1 (C := C) (L := L) (O := O) (S := S) (dst := dst) (ty := ty) (pos := pos) (aft := aft) (gu := gu) (ek := ek) (ev := ev) d0 ht hkt hz hx hy
  rw [hat] at h1
  exact h1
/-- An interface value against nil. -/
theorem y_neqNilI {t' : TypeId} {z : Value} (r : Bool) (ht : ∃ ms, C.P.underlying t = some (.interface ms)) (hx : val L x = some z) (hz : (z = .nilIface ∧ r = false) ∨ ((∃ tt v, z = .iface tt v) ∧ r = true)) :
    Yi C ⟨dst, .binOp .neq t x (.const .nilIface) t', ty, pos, aft, gu⟩ L O S (.bool r) :=
  yi_val (by intro c h; cases h) fun a w hr _ => by
    have h0 : a.eval (.const .nilIface) = .nilIface := rfl
    obtain ⟨ms, ht⟩ := ht
    rcases hz with ⟨rfl, rfl⟩ | ⟨⟨tt, v, rfl⟩, rfl⟩
    · have h : (Op.equal t .nilIface .nilIface).run C.P w = .ok true w := by
        have h1 : ∀ d : Nat, (Op.equalIn (d + 1) t .nilIface .nilIface).run C.P w = .ok true w := fun d => by simp [Op.equalIn, run_underlying ht]
        exact h1 9999
      simp [execOp, hr.val hx, h0, eqGuard, binOp, h]
    · have h : (Op.equal t (.iface tt v) .nilIface).run C.P w = .ok false w := by
        have h1 : ∀ d : Nat, (Op.equalIn (d + 1) t (.iface tt v) .nilIface).run C.P w = .ok false w := fun d => by simp [Op.equalIn, run_underlying ht]
        exact h1 9999
      simp [execOp, hr.val hx, h0, eqGuard, binOp, h]
end
end Go.Sx
