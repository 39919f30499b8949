/- Texts of ours, joined: 13 of them. Conditions: none. -/
import Derived.Test.YtppfniekcgnmjaaGreatZb
import Derived.WalkKit
namespace Go.Sx
open Go.RowKit
section
variable {C : Cx} {Q : Exit → Act → World → Prop} {L : Regs} {O S : List Fact} {ops : Array Oper} {rest : List Oper} {ty : TypeId} {pos : String} {aft : Array Edge} {dst : Option Tmp} {gu : Option (Nat × Bool)} {t : TypeId} {x y : Operand}
theorem take_tk {n k : Nat} {cs vs : List Value} (h : Tk n k cs vs) : (cs.drop k).take n = vs := by
  refine List.ext_getElem? fun j => ?_
  rw [List.getElem?_take]
  by_cases hj : j < n
  · rw [if_pos hj, List.getElem?_drop, h.eq j hj]
  · rw [if_neg hj, List.getElem?_eq_none (by rw [h.len]; omega)]
/-- An element of an array that lies in a register, several cells each. -/
theorem y_indexAN {e n m : Nat} {i : Int} {k : IntKind} {cs vs : List Value} (ht : C.P.underlying t = some (.array m e)) (hs : ∀ w, (sizeOf e).run C.P w = .ok n w) (ha : ∀ w, (isAgg e).run C.P w = .ok true w) (hx : val L x = some (.agg cs.toArray)) (hy : val L y = some (.int k i)) (hi : 0 ≤ i ∧ i < m) (hv : Tk n (i.toNat * n) cs vs) :
    Yi C ⟨dst, .index t x y, ty, pos, aft, gu⟩ L O S (.agg vs.toArray) :=
  yi_val (by intro c h; cases h) fun a w hr _ => by
    have he := take_tk hv
    simp [execOp, hr.val hx, hr.val hy, Instr.index, asIntOf, run_underlying ht, hi, part, hs, ha, he]
theorem ej_retC3 {fn : Func} {R : Ending → World → Prop} {p u1 u2 : Tmp} {t : TypeId} {a : Addr} {v x1 x2 : Value} (hD : C.D = []) (h : fn.results = #[.cell p t, .tmp u1, .tmp u2]) (hx : val L (.tmp p) = some (.pointer (some a))) (hy : Yi C ⟨none, .load t (.tmp p), 0, "", #[], none⟩ L O S v)
    (h1 : look L u1 = some x1) (h2 : look L u2 = some x2) (hR : ∀ w, Hp C.F C.w0 O S w → R (.returned (.tuple #[v, x1, x2])) w) :
    EJ C (bodyPost C.P fn R) .ret L O S := fun ac w hr hp => ⟨hr.defers.trans hD, _, by
      have h0 := getQ_of_look hr hx
      simp [results, h, h0, getQ_of_look hr h1, getQ_of_look hr h2, asAddr, yi_loadVar hx hy hr hp], hR w hp⟩
theorem tk_all (cs : List Value) {n : Nat} (h : cs.length = n) : Tk n 0 cs cs := ⟨fun j _ => by rw [Nat.zero_add], h⟩
theorem set_all (vs cs : List Value) (h : vs.length = cs.length) : SetC 0 vs cs vs := ⟨fun j => by
  by_cases hj : j < vs.length
  · rw [if_pos ⟨Nat.zero_le _, by omega⟩]; rfl
  · rw [if_neg (by omega), List.getElem?_eq_none (by omega), List.getElem?_eq_none (by omega)], h, by omega⟩
/-- == of two arrays, element by element. -/
theorem run_eq_arr {P : Program} {e len n d : Nat} {xs ys : Array Value} (q : Nat → Bool) (ht : P.underlying t = some (.array len e)) (hs : ∀ w, (sizeOf e).run P w = .ok n w)
    (hq : ∀ i, i < len → ∀ w, ∃ a b, (part e xs (i * n)).run P w = .ok a w ∧ (part e ys (i * n)).run P w = .ok b w ∧ (Op.equalIn d e a b).run P w = .ok (q i) w) (w : World) : (Op.equalIn (d + 1) t (.agg xs) (.agg ys)).run P w = .ok ((List.range len).all q) w := by
  simp only [Op.equalIn, Sem.run_bind, run_underlying ht, Result.andThen_ok, hs]
  simp only [Std.Legacy.Range.forIn_eq_forIn_range', Std.Legacy.Range.size, Nat.sub_zero, Nat.add_one_sub_one, Nat.div_one]
  rw [List.range_eq_range']
  have hq' : ∀ i ∈ List.range' 0 len, ∀ w, ∃ a b, (part e xs (i * n)).run P w = .ok a w ∧ (part e ys (i * n)).run P w = .ok b w ∧ (Op.equalIn d e a b).run P w = .ok (q i) w := fun i hi => hq i (by simpa using List.mem_range'_1.1 hi)
  generalize List.range' 0 len = is at hq'
  induction is with
  | nil => simp
  | cons i is ih =>
    obtain ⟨a, b, h1, h2, h3⟩ := hq' i (List.mem_cons_self ..) w
    simp only [List.forIn_cons, Sem.run_bind, h1, h2, h3, Result.andThen_ok, List.all_cons]
    cases q i with
    | false => simp
    | true => simpa using ih (fun j hj => hq' j (List.mem_cons_of_mem _ hj))
/-- The beginning of a slice. -/
theorem addr_zero (a : Addr) : a.add 0 = a := by cases a; simp [Addr.add]
theorem y_sliceTo {α : Type} {e sz c : Nat} {A : Option Addr} {xs : List α} (h : Nat) (hu : C.P.underlying t = some (.slice e)) (hs : ∀ w, (sizeOf e).run C.P w = .ok sz w) (hx : val L x = some (.slice A xs.length c)) (hy : val L y = some (.int .i64 (h : Nat))) (hh : h ≤ xs.length) (hc : xs.length ≤ c) :
    Yi C ⟨dst, .slice t x none (some y) none, ty, pos, aft, gu⟩ L O S (.slice A (xs.take h).length c) := by
  have h1 := y_slice (C := C) (O := O) (S := S) (dst := dst) (ty := ty) (pos := pos) (aft := aft) (gu := gu) (lo := none) (hi := some y) (l := 0) (h := h) hu hs hx rfl hy (Nat.zero_le _) (by omega)
  have e1 : (if c = 0 then A else A.map (·.add (0 * sz))) = A := by
    rw [Nat.zero_mul]
    cases A with
    | none => simp
    | some a => simp [addr_zero]
  rw [e1, Nat.sub_zero, Nat.sub_zero] at h1
  rw [List.length_take, Nat.min_eq_left hh]
  exact h1
theorem sl_take {α : Type} {fp : Nat → Prop} {sz : Nat} {enc : α → List Value} {A : Option Addr} {xs : List α} {w : World} (h : (sl fp sz enc A xs).P w) (n : Nat) : (sl fp sz enc A (xs.take n)).P w :=
  ⟨Nat.le_trans (by rw [List.length_take]; omega) h.1, fun hne => by
    obtain ⟨a, ha, hb, hc⟩ := h.2 (fun he => hne (by rw [he, List.take_nil]))
    refine ⟨a, ha, hb, fun i x j u hx hu => hc i x j u ?_ hu⟩
    rw [List.getElem?_take] at hx
    split at hx
    · exact hx
    · cases hx⟩
/-- An array of zero values. -/
theorem y_buildA0 {e n sz : Nat} {z : Value} {cs : List Value} (hu : C.P.underlying t = some (.array n e)) (hs : ∀ w, (sizeOf e).run C.P w = .ok sz w) (hz : ∀ w, (zeroValue t).run C.P w = .ok z w) (hc : z.cells = cs.toArray) : Yi C ⟨dst, .build t #[], ty, pos, aft, gu⟩ L O S (.agg cs.toArray) :=
  yi_val (by intro c h; cases h) fun a w hr _ => by
    simp only [execOp, Instr.build, Sem.run_bind, hz, Result.andThen_ok, run_underlying hu, hs, hc]
    simp [Instr.fill]
/-- What a map holds at a key that it has. -/
theorem y_lookupG {K V : Type} {ek : K → Value} {ev : V → Value} {kd : TypeDesc} {kt et : TypeId} {b : Nat} {l : List (K × V)} {kk : K} {v : V} [DecidableEq K] (d0 : V) (hat : getL l kk = some v) [hk : KeyE ek kd] [h : HasMp O b ek ev l] (ht : C.P.underlying t = some (.map kt et)) (hkt : C.P.underlying kt = some kd) (hz : ∀ w, (zeroValue et).run C.P w = .ok (ev d0) w)
    (hx : val L x = some (.map (some b))) (hy : val L y = some (ek kk)) : Yi C ⟨dst, .lookup t x y false, ty, pos, aft, gu⟩ L O S (ev v) := by
  have h1 := y_lookup1 (C := C) (L := L) (O := O) (S := S) (dst := dst) (ty := ty) (pos := pos) (aft := aft) (gu := gu) (ek := ek) (ev := ev) d0 ht hkt hz hx hy
  rw [hat] at h1
  exact h1
/-- An interface value against nil. -/
theorem y_neqNilI {t' : TypeId} {z : Value} (r : Bool) (ht : ∃ ms, C.P.underlying t = some (.interface ms)) (hx : val L x = some z) (hz : (z = .nilIface ∧ r = false) ∨ ((∃ tt v, z = .iface tt v) ∧ r = true)) :
    Yi C ⟨dst, .binOp .neq t x (.const .nilIface) t', ty, pos, aft, gu⟩ L O S (.bool r) :=
  yi_val (by intro c h; cases h) fun a w hr _ => by
    have h0 : a.eval (.const .nilIface) = .nilIface := rfl
    obtain ⟨ms, ht⟩ := ht
    rcases hz with ⟨rfl, rfl⟩ | ⟨⟨tt, v, rfl⟩, rfl⟩
    · have h : (Op.equal t .nilIface .nilIface).run C.P w = .ok true w := by
        have h1 : ∀ d : Nat, (Op.equalIn (d + 1) t .nilIface .nilIface).run C.P w = .ok true w := fun d => by simp [Op.equalIn, run_underlying ht]
        exact h1 9999
      simp [execOp, hr.val hx, h0, eqGuard, binOp, h]
    · have h : (Op.equal t (.iface tt v) .nilIface).run C.P w = .ok false w := by
        have h1 : ∀ d : Nat, (Op.equalIn (d + 1) t (.iface tt v) .nilIface).run C.P w = .ok false w := fun d => by simp [Op.equalIn, run_underlying ht]
        exact h1 9999
      simp [execOp, hr.val hx, h0, eqGuard, binOp, h]
end
end Go.Sx
namespace Go.Sx
open Go.RowKit
section
variable {C : Cx} {L : Regs} {O S : List Fact} {ty : TypeId} {pos : String} {aft : Array Edge} {dst : Option Tmp} {gu : Option (Nat × Bool)} {t t' : TypeId} {x y : Operand}
def orZ (a b : Int) : Int := IntKind.i64.wrap ((BitVec.ofInt 64 a ||| BitVec.ofInt 64 b).toNat : Int)
def andZ (a : Int) (c : Nat) : Nat := (BitVec.ofInt 64 a &&& BitVec.ofInt 64 (c : Int)).toNat
theorem bv_wrap (z : Int) : BitVec.ofInt 64 (IntKind.i64.wrap z) = BitVec.ofInt 64 z := by
  rw [IntKind.wrap_i64]
  apply BitVec.eq_of_toNat_eq
  rw [BitVec.toNat_ofInt, BitVec.toNat_ofInt]
  omega
theorem bv_nat (m : Nat) : BitVec.ofInt 64 (m : Int) = BitVec.ofNat 64 m := BitVec.ofInt_natCast ..
theorem and_bit {a : Int} {c i : Nat} (hc : c < 2 ^ 62) : (andZ a c).testBit i = ((BitVec.ofInt 64 a).getLsbD i && c.testBit i) := by
  unfold andZ
  rw [BitVec.testBit_toNat, BitVec.getLsbD_and]
  congr 1
  rw [← BitVec.testBit_toNat, nat_bv c (by omega)]
theorem and_le {a : Int} {c : Nat} (hc : c < 2 ^ 62) : andZ a c ≤ c := by
  have e : andZ a c &&& c = andZ a c := Nat.eq_of_testBit_eq fun i => by
    rw [Nat.testBit_and, and_bit hc]
    cases (BitVec.ofInt 64 a).getLsbD i <;> cases c.testBit i <;> rfl
  rw [← e]; exact Nat.and_le_right
theorem and_or {p c i : Nat} {n : Int} (hp : p < 2 ^ 62) (hc : c < 2 ^ 62) (h : p.testBit i = true) (h2 : c.testBit i = true) : (andZ (orZ p n) c).testBit i = true := by
  rw [and_bit hc, h2, Bool.and_true, orZ, bv_wrap, bv_nat, BitVec.ofNat_toNat, BitVec.setWidth_eq, BitVec.getLsbD_or, ← BitVec.testBit_toNat, nat_bv p (by omega), h, Bool.true_or]
theorem y_orZ {m n : Int} (hx : val L x = some (.int .i64 m)) (hy : val L y = some (.int .i64 n)) : Yi C ⟨dst, .binOp .or t x y t', ty, pos, aft, gu⟩ L O S (.int .i64 (orZ m n)) :=
  yi_val (by intro c h; cases h) fun a w hr _ => by
    have e : binOp .or t (.int .i64 m) (.int .i64 n) = pure (.int .i64 (orZ m n)) := by
      unfold binOp
      simp only [ne_eq, not_true_eq_false, if_false]
      rfl
    simp [execOp, hr.val hx, hr.val hy, eqGuard, e]
theorem y_andZ {m : Int} {c : Nat} (hx : val L x = some (.int .i64 m)) (hy : val L y = some (.int .i64 (c : Nat))) (hc : c < 2 ^ 62) : Yi C ⟨dst, .binOp .and t x y t', ty, pos, aft, gu⟩ L O S (.int .i64 ((andZ m c : Nat) : Int)) :=
  yi_val (by intro c h; cases h) fun a w hr _ => by
    have h1 : IntKind.i64.wrap ((andZ m c : Nat) : Int) = ((andZ m c : Nat) : Int) := IntWalk.i64_in _ (by have := and_le (a := m) hc; omega)
    have e : binOp .and t (.int .i64 m) (.int .i64 (c : Int)) = pure (.int .i64 ((andZ m c : Nat) : Int)) := by
      unfold binOp
      simp only [ne_eq, not_true_eq_false, if_false]
      exact congrArg (fun z => (pure (Value.int .i64 z) : Sem Value)) h1
    simp [execOp, hr.val hx, hr.val hy, eqGuard, e]
/-- An element of a slice whose length is known in other words. -/
theorem y_ixRm {α : Type} {m s e n c sz : Nat} {A : Option Addr} {i : Int} {k : IntKind} {enc : α → List Value} {xs : List α} (hm : m = xs.length) (hr0 : Reads C O S sz enc A xs) (hu : C.P.underlying s = some (.slice e)) (hs : ∀ w, (sizeOf e).run C.P w = .ok n w) (hx : val L x = some (.slice A m c)) (hy : val L y = some (.int k i)) (hi : 0 ≤ i ∧ i < m) :
    Yi C ⟨dst, .indexAddr s x y, ty, pos, aft, gu⟩ L O S (.pointer (some (at_ A (i.toNat * n)))) := by
  subst hm
  exact y_ixR hr0 hu hs hx hy hi
theorem oj_cutO {α : Type} {Q : Exit → Act → World → Prop} {ops : Array Oper} {rest : List Oper} {e : TypeId} {sz c : Nat} {enc : α → List Value} {A : Option Addr} {xs ys : List α} {O' : List Fact} (he : ∀ x, (enc x).length = sz) (hA : A = none → xs = [] ∧ c = 0) [hu : UpdOw O A e sz enc c (xs ++ ys) (ow e sz enc A c xs) O'] (k : OJ C ops Q rest L O' S) : OJ C ops Q rest L O S :=
  fun a w hr hp => k a w hr (hp.write hu.rep rfl rfl rfl (Nat.le_refl _) (fun _ _ _ => rfl) (ow_cut he hA (hp.own _ hu.rep.mem).1) (fun b hb => by
    have hb' : (ow e sz enc A c (xs ++ ys)).fp b := by
      have h1 : (Value.slice A xs.length c).ownBlock = some b := hb
      show (Value.slice A (xs ++ ys).length c).ownBlock = some b
      cases A with
      | none => simp [Value.ownBlock] at h1
      | some a => exact h1
    exact ⟨((hp.own _ hu.rep.mem).2 b hb').1, .inl hb'⟩))
end
end Go.Sx
namespace Um
def sumI : List Int → Int
  | [] => 0
  | x :: l => x + sumI l
theorem sumI_append (a b : List Int) : sumI (a ++ b) = sumI a + sumI b := by
  induction a with
  | nil => simp [sumI]
  | cons x a ih => rw [List.cons_append, sumI, sumI, ih]; omega
theorem sumI_set : ∀ (l : List Int) (i : Nat) (v : Int), i < l.length → sumI (l.set i v) = sumI l - l.getD i 0 + v
  | [], i, v, h => by simp at h
  | x :: l, 0, v, _ => by simp [sumI]; omega
  | x :: l, i + 1, v, h => by
    have := sumI_set l i v (by simpa using h)
    simp only [List.set_cons_succ, sumI, List.getD_cons_succ, this]; omega
theorem sumI_nonneg : ∀ {l : List Int}, (∀ x ∈ l, 0 ≤ x) → 0 ≤ sumI l
  | [], _ => Int.le_refl _
  | x :: l, h => by
    have h1 := h x (List.mem_cons_self ..)
    have h2 := sumI_nonneg (l := l) fun y hy => h y (List.mem_cons_of_mem _ hy)
    rw [sumI]; omega
theorem sumI_le_mul {m : Int} : ∀ {l : List Int}, (∀ x ∈ l, x ≤ m) → sumI l ≤ l.length * m
  | [], _ => by simp [sumI]
  | x :: l, h => by
    have h1 := h x (List.mem_cons_self ..)
    have h2 := sumI_le_mul (l := l) fun y hy => h y (List.mem_cons_of_mem _ hy)
    rw [sumI, List.length_cons, Int.natCast_add, Int.add_mul]; omega
theorem sumI_take_get : ∀ {l : List Int} {k : Nat} {x : Int}, l[k]? = some x → sumI (l.take (k + 1)) = sumI (l.take k) + x
  | l, k, x, h => by
    rw [List.take_add_one, h, sumI_append]
    simp [sumI]
theorem sumI_drop_get {l : List Int} {k : Nat} {x : Int} (h : l[k]? = some x) : sumI (l.drop k) = x + sumI (l.drop (k + 1)) := by
  obtain ⟨hk, rfl⟩ := List.getElem?_eq_some_iff.1 h
  rw [List.drop_eq_getElem_cons hk, sumI]
theorem sumI_replicate (n : Nat) : sumI (List.replicate n 0) = 0 := by
  induction n with
  | zero => rfl
  | succ n ih => rw [List.replicate_succ, sumI, ih]; rfl
theorem sumI_mem_le : ∀ {l : List Int}, (∀ x ∈ l, 0 ≤ x) → ∀ x ∈ l, x ≤ sumI l
  | [], _, _, h => by cases h
  | y :: l, h, x, hx => by
    have h0 := h y (List.mem_cons_self ..)
    have hn := sumI_nonneg (l := l) fun z hz => h z (List.mem_cons_of_mem _ hz)
    rw [sumI]
    rcases List.mem_cons.1 hx with rfl | hx
    · omega
    · have := sumI_mem_le (l := l) (fun z hz => h z (List.mem_cons_of_mem _ hz)) x hx; omega

/-- The floors. -/
def flo (l : List Int) (all whole : Int) : List Int := l.map fun w => all * w / whole
/-- The index that gets the next one. -/
def bstF (l out : List Int) : Nat → Nat → Nat → Nat
  | 0, _, b => b
  | n + 1, i, b => bstF l out n (i + 1) (if l.getD i 0 * (out.getD b 0 + 1) > l.getD b 0 * (out.getD i 0 + 1) then i else b)
def nxtI (l out : List Int) : Nat := bstF l out l.length 0 0
def bump (out : List Int) (i : Nat) : List Int := out.set i (out.getD i 0 + 1)
def shareF (l : List Int) : Nat → List Int → List Int
  | 0, out => out
  | n + 1, out => shareF l n (bump out (nxtI l out))
def shareL (l : List Int) (all : Int) : List Int := shareF l (all - sumI (flo l all (sumI l))).toNat (flo l all (sumI l))

/-- Unit a of i comes before unit b of j. -/
def Bt (l : List Int) (i : Nat) (a : Int) (j : Nat) (b : Int) : Prop := l.getD i 0 * b > l.getD j 0 * a ∨ (l.getD i 0 * b = l.getD j 0 * a ∧ i < j)
structure Stab (l out : List Int) : Prop where
  len : out.length = l.length
  nn : ∀ i, 0 ≤ out.getD i 0
  st : ∀ i j, i < l.length → j < l.length → i ≠ j → 0 < out.getD i 0 → Bt l i (out.getD i 0) j (out.getD j 0 + 1)

theorem gd_lt {l : List Int} {i : Nat} (h : i < l.length) : l.getD i 0 = l[i] := by simp [List.getD_eq_getElem?_getD, h]
theorem gd_ge {l : List Int} {i : Nat} (h : l.length ≤ i) : l.getD i 0 = 0 := by simp [List.getD_eq_getElem?_getD, h]
theorem getD_nn {l : List Int} (h : ∀ x ∈ l, 0 ≤ x) (i : Nat) : 0 ≤ l.getD i 0 := by
  by_cases hi : i < l.length
  · rw [gd_lt hi]; exact h _ (List.getElem_mem hi)
  · rw [gd_ge (by omega)]; exact Int.le_refl _
theorem flo_len (l : List Int) (all whole : Int) : (flo l all whole).length = l.length := List.length_map ..
theorem flo_get (l : List Int) (all whole : Int) (i : Nat) : (flo l all whole).getD i 0 = all * l.getD i 0 / whole := by
  by_cases hi : i < l.length
  · rw [gd_lt (show i < (flo l all whole).length by rw [flo_len]; exact hi), gd_lt hi]; simp [flo]
  · rw [gd_ge (show (flo l all whole).length ≤ i by rw [flo_len]; omega), gd_ge (by omega)]; simp
theorem bt_floor {all whole u v a b : Int} (hw : 0 < whole) (hu : 0 ≤ u) (hv : 0 ≤ v) (ha : a = all * u / whole) (hb : b = all * v / whole) (hp : 0 < a) : v * a < u * (b + 1) := by
  have h1 : a * whole ≤ all * u := by rw [ha]; exact Int.ediv_mul_le _ (by omega)
  have h2 : all * v < (b + 1) * whole := by rw [hb]; exact Int.lt_ediv_add_one_mul_self _ hw
  have hu0 : 0 < u := by
    rcases Int.lt_or_eq_of_le hu with h | h
    · exact h
    · rw [← h] at ha; simp at ha; omega
  have h3 : v * (a * whole) ≤ v * (all * u) := Int.mul_le_mul_of_nonneg_left h1 hv
  have h4 : u * (all * v) < u * ((b + 1) * whole) := Int.mul_lt_mul_of_pos_left h2 hu0
  have h5 : v * (all * u) = u * (all * v) := by rw [Int.mul_left_comm, Int.mul_comm v u, Int.mul_left_comm u all v]
  have h6 : (v * a) * whole < (u * (b + 1)) * whole := by rw [Int.mul_assoc, Int.mul_assoc]; omega
  exact Int.lt_of_mul_lt_mul_right h6 (by omega)
theorem stab_flo {l : List Int} (hl : ∀ x ∈ l, 0 ≤ x) {all : Int} (hall : 0 ≤ all) (hw : 0 < sumI l) : Stab l (flo l all (sumI l)) where
  len := flo_len ..
  nn i := by rw [flo_get]; exact Int.ediv_nonneg (Int.mul_nonneg hall (getD_nn hl i)) (by omega)
  st i j _ _ _ hp := .inl (bt_floor hw (getD_nn hl i) (getD_nn hl j) (flo_get ..) (flo_get ..) hp)

/-- The best next unit is the best one. -/
theorem bst_spec {l out : List Int} (hl : ∀ i, 0 ≤ l.getD i 0) (ho : ∀ i, 0 ≤ out.getD i 0) : ∀ (n i b : Nat), b < i ∨ (i = 0 ∧ b = 0) → (∀ j, j < i → j ≠ b → Bt l b (out.getD b 0 + 1) j (out.getD j 0 + 1)) →
    (bstF l out n i b < i + n ∨ (i + n = 0 ∧ bstF l out n i b = 0)) ∧ ∀ j, j < i + n → j ≠ bstF l out n i b → Bt l (bstF l out n i b) (out.getD (bstF l out n i b) 0 + 1) j (out.getD j 0 + 1)
  | 0, i, b, hb, h => ⟨by rw [bstF]; omega, by rw [bstF, Nat.add_zero]; exact h⟩
  | n + 1, i, b, hb, h => by
    rw [bstF, show i + (n + 1) = (i + 1) + n by omega]
    split
    · rename_i hgt
      refine bst_spec hl ho n (i + 1) i (.inl (by omega)) fun j hj hne => ?_
      have hji : j < i := by omega
      by_cases hjb : j = b
      · subst hjb; exact .inl hgt
      · have hb0 : b < i := by omega
        have h1 := h j hji hjb
        have e1 : l.getD j 0 * (out.getD b 0 + 1) ≤ l.getD b 0 * (out.getD j 0 + 1) := by rcases h1 with h1 | h1 <;> omega
        -- j ≤ b < i, as quotients
        refine .inl ?_
        have p1 : 0 < out.getD b 0 + 1 := by have := ho b; omega
        have p2 : 0 < out.getD j 0 + 1 := by have := ho j; omega
        have p3 : 0 < out.getD i 0 + 1 := by have := ho i; omega
        have q1 : (l.getD j 0 * (out.getD b 0 + 1)) * (out.getD i 0 + 1) ≤ (l.getD b 0 * (out.getD j 0 + 1)) * (out.getD i 0 + 1) := Int.mul_le_mul_of_nonneg_right e1 (by omega)
        have q2 : (l.getD b 0 * (out.getD i 0 + 1)) * (out.getD j 0 + 1) < (l.getD i 0 * (out.getD b 0 + 1)) * (out.getD j 0 + 1) := Int.mul_lt_mul_of_pos_right hgt p2
        have q3 : (l.getD b 0 * (out.getD j 0 + 1)) * (out.getD i 0 + 1) = (l.getD b 0 * (out.getD i 0 + 1)) * (out.getD j 0 + 1) := by rw [Int.mul_assoc, Int.mul_assoc, Int.mul_comm (out.getD j 0 + 1)]
        have q4 : (l.getD j 0 * (out.getD i 0 + 1)) * (out.getD b 0 + 1) < (l.getD i 0 * (out.getD j 0 + 1)) * (out.getD b 0 + 1) := by
          rw [Int.mul_assoc, Int.mul_comm (out.getD i 0 + 1), ← Int.mul_assoc, Int.mul_assoc (l.getD i 0), Int.mul_comm (out.getD j 0 + 1), ← Int.mul_assoc (l.getD i 0)]
          omega
        exact Int.lt_of_mul_lt_mul_right q4 (by omega)
    · rename_i hle
      refine bst_spec hl ho n (i + 1) b (.inl (by omega)) fun j hj hne => ?_
      by_cases hji : j < i
      · exact h j hji hne
      · have : j = i := by omega
        subst this
        have h2 : l.getD j 0 * (out.getD b 0 + 1) ≤ l.getD b 0 * (out.getD j 0 + 1) := by omega
        rcases Int.lt_or_eq_of_le h2 with h3 | h3
        · exact .inl h3
        · exact .inr ⟨h3.symm, by omega⟩
theorem nxt_lt {l out : List Int} (hl : ∀ i, 0 ≤ l.getD i 0) (ho : ∀ i, 0 ≤ out.getD i 0) (hne : 0 < l.length) : nxtI l out < l.length := by
  have := (bst_spec hl ho l.length 0 0 (.inr ⟨rfl, rfl⟩) (fun j hj => by omega)).1
  unfold nxtI; omega
theorem nxt_best {l out : List Int} (hl : ∀ i, 0 ≤ l.getD i 0) (ho : ∀ i, 0 ≤ out.getD i 0) (j : Nat) (hj : j < l.length) (hne : j ≠ nxtI l out) : Bt l (nxtI l out) (out.getD (nxtI l out) 0 + 1) j (out.getD j 0 + 1) :=
  (bst_spec hl ho l.length 0 0 (.inr ⟨rfl, rfl⟩) (fun j hj => by omega)).2 j (by omega) hne
theorem bump_len (out : List Int) (i : Nat) : (bump out i).length = out.length := List.length_set ..
theorem bump_get (out : List Int) (i j : Nat) (hi : i < out.length) : (bump out i).getD j 0 = if i = j then out.getD i 0 + 1 else out.getD j 0 := by
  unfold bump
  rw [List.getD_eq_getElem?_getD, List.getElem?_set]
  split
  · subst_vars; simp [hi]
  · rw [List.getD_eq_getElem?_getD]
theorem stab_bump {l out : List Int} (hl : ∀ x ∈ l, 0 ≤ x) (h : Stab l out) (hne : 0 < l.length) : Stab l (bump out (nxtI l out)) := by
  have hg := getD_nn hl
  have hlt := nxt_lt hg h.nn hne
  have hlo : nxtI l out < out.length := by rw [h.len]; exact hlt
  refine ⟨by rw [bump_len, h.len], fun i => ?_, fun i j hi hj hij hp => ?_⟩
  · rw [bump_get _ _ _ hlo]
    split
    · have := h.nn (nxtI l out); omega
    · exact h.nn i
  · rw [bump_get _ _ _ hlo] at hp ⊢
    rw [bump_get _ _ _ hlo]
    split
    · rename_i e; subst e
      rw [if_neg hij]
      exact nxt_best hg h.nn j hj (fun e => hij e.symm)
    · rename_i e
      rw [if_neg e] at hp
      split
      · rename_i e2; subst e2
        have h1 := h.st i _ hi hj hij hp
        have h2 : l.getD i 0 * (out.getD (nxtI l out) 0 + 1) ≤ l.getD i 0 * (out.getD (nxtI l out) 0 + 1 + 1) := Int.mul_le_mul_of_nonneg_left (by omega) (hg i)
        rcases h1 with h1 | ⟨h1, h3⟩
        · exact .inl (by omega)
        · rcases Int.lt_or_eq_of_le h2 with h4 | h4
          · exact .inl (by omega)
          · exact .inr ⟨by omega, h3⟩
      · exact h.st i j hi hj hij hp
theorem stab_share {l : List Int} (hl : ∀ x ∈ l, 0 ≤ x) (hne : 0 < l.length) : ∀ (n : Nat) (out : List Int), Stab l out → Stab l (shareF l n out) ∧ sumI (shareF l n out) = sumI out + n
  | 0, out, h => ⟨h, by rw [shareF]; omega⟩
  | n + 1, out, h => by
    rw [shareF]
    obtain ⟨h1, h2⟩ := stab_share hl hne n _ (stab_bump hl h hne)
    refine ⟨h1, ?_⟩
    have hlt := nxt_lt (getD_nn hl) h.nn hne
    rw [h2, bump, sumI_set _ _ _ (by rw [h.len]; exact hlt)]; omega
/-- More to share makes no part less. -/
theorem stab_mono {l a b : List Int} (hl : ∀ x ∈ l, 0 ≤ x) (ha : Stab l a) (hb : Stab l b) (hs : sumI a ≤ sumI b) (i : Nat) : a.getD i 0 ≤ b.getD i 0 := by
  refine Int.not_lt.1 fun hlt => ?_
  have hi : i < l.length := Nat.lt_of_not_le fun h => by
    rw [gd_ge (l := a) (by rw [ha.len]; omega)] at hlt
    have := hb.nn i; omega
  -- another one has more in b
  have key : ∀ (x y : List Int) (i : Nat), x.length = y.length → (∀ j, j ≠ i → y.getD j 0 ≤ x.getD j 0) → y.getD i 0 < x.getD i 0 → sumI y < sumI x := by
    have le : ∀ (x y : List Int), x.length = y.length → (∀ j, y.getD j 0 ≤ x.getD j 0) → sumI y ≤ sumI x := by
      intro x
      induction x with
      | nil => intro y h _; cases y with | nil => exact Int.le_refl _ | cons _ _ => simp at h
      | cons u x ih =>
        intro y h hj
        cases y with
        | nil => simp at h
        | cons v y =>
          have h0 := hj 0
          have h1 := ih y (by simpa using h) fun j => by have := hj (j + 1); simpa using this
          simp only [List.getD_cons_zero] at h0
          simp only [sumI]; omega
    intro x
    induction x with
    | nil => intro y i h _ h2; cases y with | nil => simp at h2 | cons _ _ => simp at h
    | cons u x ih =>
      intro y i h hj h2
      cases y with
      | nil => simp at h
      | cons v y =>
        cases i with
        | zero =>
          have h1 := le x y (by simpa using h) fun j => by have := hj (j + 1) (by omega); simpa using this
          simp only [List.getD_cons_zero] at h2
          simp only [sumI]; omega
        | succ i =>
          have h1 := ih y i (by simpa using h) (fun j hne => by have := hj (j + 1) (by omega); simpa using this) (by simpa using h2)
          have h0 := hj 0 (by omega)
          simp only [List.getD_cons_zero] at h0
          simp only [sumI]; omega
  have hex : ∃ j, j ≠ i ∧ a.getD j 0 < b.getD j 0 := Classical.byContradiction fun hn => by
    have := key a b i (by rw [ha.len, hb.len]) (fun j hj => Int.not_lt.1 fun h => hn ⟨j, hj, h⟩) hlt
    omega
  obtain ⟨j, hji, hj⟩ := hex
  have hjl : j < l.length := Nat.lt_of_not_le fun h => by
    rw [gd_ge (l := b) (by rw [hb.len]; omega)] at hj
    have := ha.nn j; omega
  have h1 := ha.st i j hi hjl (fun e => hji e.symm) (by have := hb.nn i; omega)
  have h2 := hb.st j i hjl hi hji (by have := ha.nn j; omega)
  have hg := getD_nn hl
  have e1 : l.getD j 0 * (b.getD i 0 + 1) ≤ l.getD j 0 * a.getD i 0 := Int.mul_le_mul_of_nonneg_left (by omega) (hg j)
  have e2 : l.getD i 0 * (a.getD j 0 + 1) ≤ l.getD i 0 * b.getD j 0 := Int.mul_le_mul_of_nonneg_left (by omega) (hg i)
  rcases h1 with h1 | ⟨h1, h1'⟩ <;> rcases h2 with h2 | ⟨h2, h2'⟩ <;> omega

theorem flo_sum {l : List Int} {all whole : Int} (hw : 0 < whole) : sumI (flo l all whole) * whole ≤ all * sumI l := by
  induction l with
  | nil => simp [flo, sumI]
  | cons x l ih =>
    have h1 : all * x / whole * whole ≤ all * x := Int.ediv_mul_le _ (by omega)
    simp only [flo, List.map_cons, sumI] at ih ⊢
    rw [Int.add_mul, Int.mul_add]; omega
theorem flo_le {l : List Int} {all : Int} (hw : 0 < sumI l) : sumI (flo l all (sumI l)) ≤ all :=
  Int.le_of_mul_le_mul_right (flo_sum hw) hw
theorem share_stab {l : List Int} (hl : ∀ x ∈ l, 0 ≤ x) {all : Int} (hall : 0 ≤ all) (hw : 0 < sumI l) : Stab l (shareL l all) ∧ sumI (shareL l all) = all := by
  have hne : 0 < l.length := by cases l with | nil => simp [sumI] at hw | cons _ _ => simp
  obtain ⟨h1, h2⟩ := stab_share hl hne (all - sumI (flo l all (sumI l))).toNat _ (stab_flo hl hall hw)
  refine ⟨h1, ?_⟩
  have := flo_le (l := l) (all := all) hw
  show sumI (shareF l _ _) = all
  rw [h2]; omega
theorem share_sum {l : List Int} (hl : ∀ x ∈ l, 0 ≤ x) {all : Int} (hall : 0 ≤ all) (hw : 0 < sumI l) : sumI (shareL l all) = all := (share_stab hl hall hw).2
theorem share_len {l : List Int} (hl : ∀ x ∈ l, 0 ≤ x) {all : Int} (hall : 0 ≤ all) (hw : 0 < sumI l) : (shareL l all).length = l.length := (share_stab hl hall hw).1.len
theorem share_nn {l : List Int} (hl : ∀ x ∈ l, 0 ≤ x) {all : Int} (hall : 0 ≤ all) (hw : 0 < sumI l) (i : Nat) : 0 ≤ (shareL l all).getD i 0 := (share_stab hl hall hw).1.nn i
theorem share_mono {l : List Int} (hl : ∀ x ∈ l, 0 ≤ x) {a b : Int} (ha : 0 ≤ a) (hab : a ≤ b) (hw : 0 < sumI l) (i : Nat) : (shareL l a).getD i 0 ≤ (shareL l b).getD i 0 :=
  stab_mono hl (share_stab hl ha hw).1 (share_stab hl (by omega) hw).1 (by rw [share_sum hl ha hw, share_sum hl (by omega) hw]; exact hab) i
theorem flo_whole {l : List Int} (hw : 0 < sumI l) : flo l (sumI l) (sumI l) = l := by
  unfold flo
  conv => rhs; rw [← List.map_id l]
  refine List.map_congr_left fun x _ => ?_
  rw [Int.mul_ediv_cancel_left _ (by omega)]; rfl
theorem share_whole {l : List Int} (hw : 0 < sumI l) : shareL l (sumI l) = l := by
  unfold shareL
  rw [flo_whole hw, show (sumI l - sumI l).toNat = 0 by omega, shareF]
/-- No part is more than its weight. -/
theorem share_le {l : List Int} (hl : ∀ x ∈ l, 0 ≤ x) {all : Int} (hall : 0 ≤ all) (hle : all ≤ sumI l) (hw : 0 < sumI l) (i : Nat) : (shareL l all).getD i 0 ≤ l.getD i 0 := by
  have := share_mono hl hall hle hw i
  rwa [share_whole hw] at this
end Um
namespace Um
/-- The indices of what is such. -/
def idxF {α : Type} (q : α → Bool) : Nat → List α → List Nat
  | _, [] => []
  | i, x :: l => if q x then i :: idxF q (i + 1) l else idxF q (i + 1) l
def chosenL {α : Type} (q : α → Bool) (l : List α) : List Nat := idxF q 0 l
theorem idxF_append {α : Type} (q : α → Bool) : ∀ (a b : List α) (i : Nat), idxF q i (a ++ b) = idxF q i a ++ idxF q (i + a.length) b
  | [], b, i => by simp [idxF]
  | x :: a, b, i => by
    have ih := idxF_append q a b (i + 1)
    simp only [List.cons_append, idxF, ih, List.length_cons, Nat.add_assoc, Nat.add_comm 1]
    split <;> rfl
theorem chosen_snoc {α : Type} (q : α → Bool) {l : List α} {k : Nat} {x : α} (h : l[k]? = some x) : chosenL q (l.take (k + 1)) = chosenL q (l.take k) ++ (if q x then [k] else []) := by
  have hk := (List.getElem?_eq_some_iff.1 h).1
  rw [List.take_add_one, h, chosenL, idxF_append]
  simp only [Option.toList, idxF, List.length_take, Nat.zero_add]
  rw [Nat.min_eq_left (by omega)]; rfl
theorem idxF_mem {α : Type} (q : α → Bool) : ∀ (l : List α) (i j : Nat), j ∈ idxF q i l → i ≤ j ∧ j < i + l.length ∧ ∃ x, l[j - i]? = some x ∧ q x = true
  | [], i, j, h => by cases h
  | x :: l, i, j, h => by
    have rc : j ∈ idxF q (i + 1) l → i ≤ j ∧ j < i + (x :: l).length ∧ ∃ y, (x :: l)[j - i]? = some y ∧ q y = true := fun h => by
      obtain ⟨h1, h2, y, h3, h4⟩ := idxF_mem q l (i + 1) j h
      refine ⟨by omega, by rw [List.length_cons]; omega, y, ?_, h4⟩
      rw [show j - i = (j - (i + 1)) + 1 by omega]; simpa using h3
    rw [idxF] at h
    split at h
    · rename_i hq
      rcases List.mem_cons.1 h with rfl | h
      · exact ⟨Nat.le_refl _, by simp, x, by simp, hq⟩
      · exact rc h
    · exact rc h
theorem idxF_sorted {α : Type} (q : α → Bool) : ∀ (l : List α) (i : Nat), (idxF q i l).Pairwise (· < ·)
  | [], _ => .nil
  | x :: l, i => by
    rw [idxF]
    split
    · exact List.pairwise_cons.2 ⟨fun j hj => by have := (idxF_mem q l (i + 1) j hj).1; omega, idxF_sorted q l (i + 1)⟩
    · exact idxF_sorted q l (i + 1)
theorem chosen_mem {α : Type} {q : α → Bool} {l : List α} {j : Nat} (h : j ∈ chosenL q l) : j < l.length ∧ ∃ x, l[j]? = some x ∧ q x = true := by
  obtain ⟨_, h2, h3⟩ := idxF_mem q l 0 j h
  exact ⟨by omega, by simpa using h3⟩
theorem chosen_nodup {α : Type} (q : α → Bool) (l : List α) : (chosenL q l).Nodup := (idxF_sorted q l 0).imp fun h => Nat.ne_of_lt h
theorem chosen_len {α : Type} (q : α → Bool) (l : List α) : (chosenL q l).length ≤ l.length := by
  have : ∀ (l : List α) (i : Nat), (idxF q i l).length ≤ l.length := by
    intro l
    induction l with
    | nil => intro i; exact Nat.le_refl _
    | cons x l ih => intro i; rw [idxF]; split <;> simp <;> have := ih (i + 1) <;> omega
  exact this l 0

structure DueV where
  rank : Int
  amount : Int
/-- Values are put at indices. -/
def putL : List Int → List Nat → List Int → List Int
  | paid, i :: here, v :: own => putL (paid.set i v) here own
  | paid, _, _ => paid
theorem putL_nil (paid own : List Int) : putL paid [] own = paid := by cases own <;> rfl
theorem putL_len : ∀ (here : List Nat) (own paid : List Int), (putL paid here own).length = paid.length
  | [], _, _ => by rw [putL_nil]
  | _ :: _, [], _ => rfl
  | i :: here, v :: own, paid => by rw [putL, putL_len, List.length_set]
theorem putL_out : ∀ (here : List Nat) (own paid : List Int) (j : Nat), j ∉ here → (putL paid here own).getD j 0 = paid.getD j 0
  | [], _, _, _, _ => by rw [putL_nil]
  | _ :: _, [], _, _, _ => rfl
  | i :: here, v :: own, paid, j, h => by
    rw [putL, putL_out here own _ j (fun h2 => h (List.mem_cons_of_mem _ h2)), List.getD_eq_getElem?_getD, List.getElem?_set_ne (fun e => h (by rw [e]; exact List.mem_cons_self ..)), List.getD_eq_getElem?_getD]
theorem putL_sum : ∀ (here : List Nat) (own paid : List Int), here.Nodup → here.length = own.length → (∀ i ∈ here, i < paid.length) → (∀ i ∈ here, paid.getD i 0 = 0) → sumI (putL paid here own) = sumI paid + sumI own
  | [], [], paid, _, _, _, _ => by simp [putL, sumI]
  | [], _ :: _, _, _, h, _, _ => by simp at h
  | _ :: _, [], _, _, h, _, _ => by simp at h
  | i :: here, v :: own, paid, hn, hl, hb, hz => by
    obtain ⟨h1, h2⟩ := List.nodup_cons.1 hn
    rw [putL, putL_sum here own _ h2 (by simpa using hl) (fun j hj => by rw [List.length_set]; exact hb j (List.mem_cons_of_mem _ hj)) (fun j hj => by
      rw [List.getD_eq_getElem?_getD, List.getElem?_set_ne (fun e => h1 (by rw [e]; exact hj)), ← List.getD_eq_getElem?_getD]; exact hz j (List.mem_cons_of_mem _ hj)),
      sumI_set _ _ _ (hb i (List.mem_cons_self ..)), hz i (List.mem_cons_self ..), sumI]; omega
theorem putL_mono : ∀ (here : List Nat) (o1 o2 p1 p2 : List Int), o1.length = o2.length → p1.length = p2.length → (∀ i, o1.getD i 0 ≤ o2.getD i 0) → (∀ i, p1.getD i 0 ≤ p2.getD i 0) → ∀ i, (putL p1 here o1).getD i 0 ≤ (putL p2 here o2).getD i 0
  | [], _, _, _, _, _, _, _, h, i => by rw [putL_nil, putL_nil]; exact h i
  | _ :: _, [], [], _, _, _, _, _, h, i => h i
  | _ :: _, [], _ :: _, _, _, h, _, _, _, _ => by simp at h
  | _ :: _, _ :: _, [], _, _, h, _, _, _, _ => by simp at h
  | k :: here, u :: o1, v :: o2, p1, p2, hl, hp, ho, hpp, i => by
    rw [putL, putL]
    refine putL_mono here o1 o2 _ _ (by simpa using hl) (by simp [hp]) (fun i => by have := ho (i + 1); simpa using this) (fun i => ?_) i
    have h0 : u ≤ v := by have := ho 0; simpa using this
    have := hpp i
    simp only [List.getD_eq_getElem?_getD, List.getElem?_set] at this ⊢
    split
    · subst_vars; rw [hp]; split <;> simp [h0]
    · exact this
theorem putL_nn : ∀ (here : List Nat) (own paid : List Int), (∀ i, 0 ≤ own.getD i 0) → (∀ i, 0 ≤ paid.getD i 0) → ∀ i, 0 ≤ (putL paid here own).getD i 0
  | [], _, _, _, h, i => by rw [putL_nil]; exact h i
  | _ :: _, [], _, _, h, i => h i
  | k :: here, v :: own, paid, ho, hp, i => by
    rw [putL]
    refine putL_nn here own _ (fun i => by have := ho (i + 1); simpa using this) (fun i => ?_) i
    have h0 : 0 ≤ v := by have := ho 0; simpa using this
    have := hp i
    simp only [List.getD_eq_getElem?_getD, List.getElem?_set] at this ⊢
    split
    · split <;> simp [h0]
    · exact this

def hereL (ds : List DueV) (r : Int) : List Nat := chosenL (fun d => d.rank == r) ds
def ownL (ds : List DueV) (r : Int) : List Int := (hereL ds r).map fun i => (ds.map (·.amount)).getD i 0
def gotL (ds : List DueV) (r left : Int) : List Int := if left < sumI (ownL ds r) then shareL (ownL ds r) left else ownL ds r
def rankS (ds : List DueV) (st : List Int × Int) (r : Int) : List Int × Int := if sumI (ownL ds r) = 0 then st else (putL st.1 (hereL ds r) (gotL ds r st.2), st.2 - min st.2 (sumI (ownL ds r)))
def spreadF (ds : List DueV) : Nat → List Int × Int → List Int × Int
  | 0, st => st
  | n + 1, st => spreadF ds n (rankS ds st (10 - ((n : Int) + 1)))
def spreadL (ds : List DueV) (left : Int) : List Int × Int := spreadF ds 10 (List.replicate ds.length 0, left)
def DuesOk (ds : List DueV) : Prop := ∀ d ∈ ds, 0 ≤ d.amount

theorem own_nn {ds : List DueV} (h : DuesOk ds) (r : Int) : ∀ x ∈ ownL ds r, 0 ≤ x := fun x hx => by
  obtain ⟨i, _, rfl⟩ := List.mem_map.1 hx
  exact getD_nn (fun y hy => by obtain ⟨d, hd, rfl⟩ := List.mem_map.1 hy; exact h d hd) i
theorem own_len (ds : List DueV) (r : Int) : (ownL ds r).length = (hereL ds r).length := List.length_map ..
theorem own_pos {ds : List DueV} (h : DuesOk ds) {r : Int} (hne : ¬ sumI (ownL ds r) = 0) : 0 < sumI (ownL ds r) := by
  have := sumI_nonneg (own_nn h r); omega
theorem got_len {ds : List DueV} (h : DuesOk ds) {r left : Int} (hl : 0 ≤ left) (hne : ¬ sumI (ownL ds r) = 0) : (gotL ds r left).length = (hereL ds r).length := by
  unfold gotL
  split
  · rw [share_len (own_nn h r) hl (own_pos h hne), own_len]
  · rw [own_len]
theorem got_sum {ds : List DueV} (h : DuesOk ds) {r left : Int} (hl : 0 ≤ left) (hne : ¬ sumI (ownL ds r) = 0) : sumI (gotL ds r left) = min left (sumI (ownL ds r)) := by
  unfold gotL
  split
  · rw [share_sum (own_nn h r) hl (own_pos h hne)]; omega
  · omega
theorem got_nn {ds : List DueV} (h : DuesOk ds) {r left : Int} (hl : 0 ≤ left) (hne : ¬ sumI (ownL ds r) = 0) (i : Nat) : 0 ≤ (gotL ds r left).getD i 0 := by
  unfold gotL
  split
  · exact share_nn (own_nn h r) hl (own_pos h hne) i
  · exact getD_nn (own_nn h r) i
theorem got_mono {ds : List DueV} (h : DuesOk ds) {r a b : Int} (ha : 0 ≤ a) (hab : a ≤ b) (hne : ¬ sumI (ownL ds r) = 0) (i : Nat) : (gotL ds r a).getD i 0 ≤ (gotL ds r b).getD i 0 := by
  unfold gotL
  split <;> split
  · exact share_mono (own_nn h r) ha hab (own_pos h hne) i
  · exact share_le (own_nn h r) ha (by omega) (own_pos h hne) i
  · omega
  · exact Int.le_refl _

/-- What holds between the ranks. -/
structure SpInv (ds : List DueV) (r left0 : Int) (st : List Int × Int) : Prop where
  len : st.1.length = ds.length
  nn : ∀ i, 0 ≤ st.1.getD i 0
  left : 0 ≤ st.2
  sum : sumI st.1 + st.2 = left0
  zero : ∀ (i : Nat) d, ds[i]? = some d → r ≤ d.rank → st.1.getD i 0 = 0
theorem SpInv.step {ds : List DueV} (h : DuesOk ds) {r left0 : Int} {st : List Int × Int} (hi : SpInv ds r left0 st) : SpInv ds (r + 1) left0 (rankS ds st r) := by
  unfold rankS
  split
  · exact ⟨hi.len, hi.nn, hi.left, hi.sum, fun i d hd hr => hi.zero i d hd (by omega)⟩
  · rename_i hne
    have hz : ∀ i ∈ hereL ds r, st.1.getD i 0 = 0 := fun i hi2 => by
      obtain ⟨_, d, hd, hq⟩ := chosen_mem hi2
      exact hi.zero i d hd (by have := beq_iff_eq.1 hq; omega)
    have hb : ∀ i ∈ hereL ds r, i < st.1.length := fun i hi2 => by rw [hi.len]; exact (chosen_mem hi2).1
    refine ⟨by rw [putL_len, hi.len], putL_nn _ _ _ (got_nn h hi.left hne) hi.nn, ?_, ?_, fun i d hd hr => ?_⟩
    · show 0 ≤ st.2 - min st.2 _
      have := hi.left; omega
    · show sumI (putL _ _ _) + (st.2 - min st.2 _) = left0
      rw [putL_sum (hereL ds r) _ _ (chosen_nodup _ _) (got_len h hi.left hne).symm hb hz, got_sum h hi.left hne]
      have := hi.sum; omega
    · rw [putL_out _ _ _ _ fun hm => ?_]
      · exact hi.zero i d hd (by omega)
      · obtain ⟨_, d2, hd2, hq⟩ := chosen_mem hm
        rw [hd] at hd2; cases hd2
        have := beq_iff_eq.1 hq; omega
theorem spreadF_inv {ds : List DueV} (h : DuesOk ds) {left0 : Int} : ∀ (n : Nat) (st : List Int × Int), SpInv ds (10 - (n : Int)) left0 st → SpInv ds 10 left0 (spreadF ds n st)
  | 0, st, hi => by have := hi; simpa [spreadF] using this
  | n + 1, st, hi => by
    rw [spreadF]
    refine spreadF_inv h n _ ?_
    have := hi.step h
    rw [show ((n + 1 : Nat) : Int) = (n : Int) + 1 by omega] at this
    rwa [show 10 - ((n : Int) + 1) + 1 = 10 - (n : Int) by omega] at this
theorem spread_inv {ds : List DueV} (h : DuesOk ds) {left : Int} (hl : 0 ≤ left) : SpInv ds 10 left (spreadL ds left) := by
  refine spreadF_inv h 10 _ ⟨by simp, fun i => ?_, hl, ?_, fun i d _ _ => ?_⟩
  · exact getD_nn (fun x hx => by rw [(List.mem_replicate.1 hx).2]; exact Int.le_refl _) i
  · show sumI (List.replicate ds.length 0) + left = left
    rw [sumI_replicate]; omega
  · show (List.replicate ds.length (0 : Int)).getD i 0 = 0
    rw [List.getD_eq_getElem?_getD, List.getElem?_replicate]; split <;> rfl
theorem spreadF_mono {ds : List DueV} (h : DuesOk ds) : ∀ (n : Nat) (a b : List Int × Int) (la lb : Int), SpInv ds (10 - (n : Int)) la a → SpInv ds (10 - (n : Int)) lb b → (∀ i, a.1.getD i 0 ≤ b.1.getD i 0) → a.2 ≤ b.2 →
    (∀ i, (spreadF ds n a).1.getD i 0 ≤ (spreadF ds n b).1.getD i 0) ∧ (spreadF ds n a).2 ≤ (spreadF ds n b).2
  | 0, a, b, _, _, _, _, h1, h2 => ⟨h1, h2⟩
  | n + 1, a, b, la, lb, ha, hb, h1, h2 => by
    rw [spreadF, spreadF]
    have ha' := ha.step h
    have hb' := hb.step h
    rw [show ((n + 1 : Nat) : Int) = (n : Int) + 1 by omega] at ha' hb'
    rw [show 10 - ((n : Int) + 1) + 1 = 10 - (n : Int) by omega] at ha' hb'
    refine spreadF_mono h n _ _ la lb ha' hb' ?_ ?_
    · unfold rankS
      split
      · exact h1
      · rename_i hne
        exact putL_mono _ _ _ _ _ (by rw [got_len h ha.left hne, got_len h hb.left hne]) (by rw [ha.len, hb.len]) (got_mono h ha.left h2 hne) h1
    · unfold rankS
      split
      · exact h2
      · show a.2 - min a.2 _ ≤ b.2 - min b.2 _
        omega
/-- More to spread: no due is paid less, and no less is left. -/
theorem spread_mono {ds : List DueV} (h : DuesOk ds) {a b : Int} (ha : 0 ≤ a) (hab : a ≤ b) : (∀ i, (spreadL ds a).1.getD i 0 ≤ (spreadL ds b).1.getD i 0) ∧ (spreadL ds a).2 ≤ (spreadL ds b).2 := by
  have base : ∀ c : Int, 0 ≤ c → SpInv ds (10 - ((10 : Nat) : Int)) c (List.replicate ds.length 0, c) := fun c hc =>
    ⟨by simp, fun i => getD_nn (fun x hx => by rw [(List.mem_replicate.1 hx).2]; exact Int.le_refl _) i, hc, by show sumI (List.replicate ds.length 0) + c = c; rw [sumI_replicate]; omega, fun i d _ _ => by
      show (List.replicate ds.length (0 : Int)).getD i 0 = 0
      rw [List.getD_eq_getElem?_getD, List.getElem?_replicate]; split <;> rfl⟩
  exact spreadF_mono h 10 _ _ a b (base a ha) (base b (by omega)) (fun i => Int.le_refl _) hab

/-- Three dues of the ranks 0, 1, 2 that are all paid. -/
theorem spread_three {c d p left : Int} (hc : 0 ≤ c) (hd : 0 ≤ d) (hp : 0 ≤ p) (hl : c + d + p ≤ left) : spreadL [⟨0, c⟩, ⟨1, d⟩, ⟨2, p⟩] left = ([c, d, p], left - c - d - p) := by
  have none : ∀ (r : Int) st, r ≠ 0 → r ≠ 1 → r ≠ 2 → rankS [⟨0, c⟩, ⟨1, d⟩, ⟨2, p⟩] st r = st := fun r st h0 h1 h2 => by
    unfold rankS
    rw [if_pos]
    simp [ownL, hereL, chosenL, idxF, sumI, Ne.symm h0, Ne.symm h1, Ne.symm h2]
  have s0 : ∀ l : Int, 0 ≤ l - c → rankS [⟨0, c⟩, ⟨1, d⟩, ⟨2, p⟩] ([0, 0, 0], l) 0 = ([c, 0, 0], l - c) := fun l hl => by
    have e : ownL [⟨0, c⟩, ⟨1, d⟩, ⟨2, p⟩] 0 = [c] := by simp [ownL, hereL, chosenL, idxF]
    have e2 : hereL [⟨0, c⟩, ⟨1, d⟩, ⟨2, p⟩] 0 = [0] := by simp [hereL, chosenL, idxF]
    unfold rankS gotL
    rw [e, e2]
    simp only [sumI, Int.add_zero]
    by_cases h : c = 0
    · subst h; simp
    · rw [if_neg h, if_neg (by omega), show min l c = c by omega]; rfl
  have s1 : ∀ l : Int, 0 ≤ l - d → rankS [⟨0, c⟩, ⟨1, d⟩, ⟨2, p⟩] ([c, 0, 0], l) 1 = ([c, d, 0], l - d) := fun l hl => by
    have e : ownL [⟨0, c⟩, ⟨1, d⟩, ⟨2, p⟩] 1 = [d] := by simp [ownL, hereL, chosenL, idxF]
    have e2 : hereL [⟨0, c⟩, ⟨1, d⟩, ⟨2, p⟩] 1 = [1] := by simp [hereL, chosenL, idxF]
    unfold rankS gotL
    rw [e, e2]
    simp only [sumI, Int.add_zero]
    by_cases h : d = 0
    · subst h; simp
    · rw [if_neg h, if_neg (by omega), show min l d = d by omega]; rfl
  have s2 : ∀ l : Int, 0 ≤ l - p → rankS [⟨0, c⟩, ⟨1, d⟩, ⟨2, p⟩] ([c, d, 0], l) 2 = ([c, d, p], l - p) := fun l hl => by
    have e : ownL [⟨0, c⟩, ⟨1, d⟩, ⟨2, p⟩] 2 = [p] := by simp [ownL, hereL, chosenL, idxF]
    have e2 : hereL [⟨0, c⟩, ⟨1, d⟩, ⟨2, p⟩] 2 = [2] := by simp [hereL, chosenL, idxF]
    unfold rankS gotL
    rw [e, e2]
    simp only [sumI, Int.add_zero]
    by_cases h : p = 0
    · subst h; simp
    · rw [if_neg h, if_neg (by omega), show min l p = p by omega]; rfl
  unfold spreadL
  simp only [spreadF]
  rw [show (10 : Int) - (((9 : Nat) : Int) + 1) = 0 by omega, show (10 : Int) - (((8 : Nat) : Int) + 1) = 1 by omega, show (10 : Int) - (((7 : Nat) : Int) + 1) = 2 by omega, show (10 : Int) - (((6 : Nat) : Int) + 1) = 3 by omega,
    show (10 : Int) - (((5 : Nat) : Int) + 1) = 4 by omega, show (10 : Int) - (((4 : Nat) : Int) + 1) = 5 by omega, show (10 : Int) - (((3 : Nat) : Int) + 1) = 6 by omega, show (10 : Int) - (((2 : Nat) : Int) + 1) = 7 by omega,
    show (10 : Int) - (((1 : Nat) : Int) + 1) = 8 by omega, show (10 : Int) - (((0 : Nat) : Int) + 1) = 9 by omega]
  rw [show (List.replicate [(⟨0, c⟩ : DueV), ⟨1, d⟩, ⟨2, p⟩].length (0 : Int), left) = (([0, 0, 0] : List Int), left) from rfl, s0 _ (by omega), s1 _ (by omega), s2 _ (by omega)]
  simp only [none _ _ (show (3 : Int) ≠ 0 by decide) (by decide) (by decide), none _ _ (show (4 : Int) ≠ 0 by decide) (by decide) (by decide), none _ _ (show (5 : Int) ≠ 0 by decide) (by decide) (by decide), none _ _ (show (6 : Int) ≠ 0 by decide) (by decide) (by decide),
    none _ _ (show (7 : Int) ≠ 0 by decide) (by decide) (by decide), none _ _ (show (8 : Int) ≠ 0 by decide) (by decide) (by decide), none _ _ (show (9 : Int) ≠ 0 by decide) (by decide) (by decide)]
theorem sp_start {ds : List DueV} {r left : Int} (hl : 0 ≤ left) : SpInv ds r left (List.replicate ds.length 0, left) :=
  ⟨by simp, fun i => getD_nn (fun x hx => by rw [(List.mem_replicate.1 hx).2]; exact Int.le_refl _) i, hl, by show sumI (List.replicate ds.length 0) + left = left; rw [sumI_replicate]; omega, fun i d _ _ => by
    show (List.replicate ds.length (0 : Int)).getD i 0 = 0
    rw [List.getD_eq_getElem?_getD, List.getElem?_replicate]; split <;> rfl⟩
theorem spF_step {ds : List DueV} {r : Nat} (hr : r < 10) (st : List Int × Int) : spreadF ds (10 - r) st = spreadF ds (10 - (r + 1)) (rankS ds st (r : Int)) := by
  rw [show 10 - r = (10 - (r + 1)) + 1 by omega, spreadF, show (10 : Int) - (((10 - (r + 1) : Nat) : Int) + 1) = r by omega]
theorem putL_snoc : ∀ (a : List Nat) (b p : List Int) (i : Nat) (v : Int), a.length = b.length → putL p (a ++ [i]) (b ++ [v]) = (putL p a b).set i v
  | [], [], p, i, v, _ => by simp [putL, putL_nil]
  | [], _ :: _, _, _, _, h => by simp at h
  | _ :: _, [], _, _, _, h => by simp at h
  | j :: a, u :: b, p, i, v, h => by
    rw [List.cons_append, List.cons_append, putL, putL, putL_snoc a b _ i v (by simpa using h)]
theorem own_get {ds : List DueV} {r : Int} {k i : Nat} {d : DueV} (h : (hereL ds r)[k]? = some i) (hd : ds[i]? = some d) : (ownL ds r)[k]? = some d.amount := by
  unfold ownL
  rw [List.getElem?_map, h, Option.map_some, List.getD_eq_getElem?_getD, List.getElem?_map, hd]; rfl
theorem own_le {ds : List DueV} {r m : Int} (hm : 0 ≤ m) (h : ∀ d ∈ ds, d.amount ≤ m) : ∀ x ∈ ownL ds r, x ≤ m := fun x hx => by
  obtain ⟨i, _, rfl⟩ := List.mem_map.1 hx
  by_cases hi : i < (ds.map (·.amount)).length
  · rw [gd_lt hi, List.getElem_map]; exact h _ (List.getElem_mem _)
  · rw [gd_ge (by omega)]; exact hm
end Um
namespace Um
open Go Go.Sx Go.RowKit
theorem dropG {α : Type} {l : List α} {k : Nat} {x : α} (h : l[k]? = some x) : l.drop k = x :: l.drop (k + 1) := by
  obtain ⟨hk, e⟩ := List.getElem?_eq_some_iff.1 h
  rw [List.drop_eq_getElem_cons hk, e]
theorem not_t {b : Bool} (h : (!b) = true) : b = false := by cases b <;> simp_all
theorem not_f {b : Bool} (h : (!b) = false) : b = true := by cases b <;> simp_all
theorem any_drop {α : Type} (q : α → Bool) (l : List α) (k : Nat) (x : α) (h : l[k]? = some x) : (l.drop k).any q = (q x || (l.drop (k + 1)).any q) := by
  rw [dropG h, List.any_cons]
theorem all_drop {α : Type} (q : α → Bool) (l : List α) (k : Nat) (x : α) (h : l[k]? = some x) : (l.drop k).all q = (q x && (l.drop (k + 1)).all q) := by
  rw [dropG h, List.all_cons]
theorem any_take {α : Type} (q : α → Bool) {l : List α} {k : Nat} {x : α} (h : l[k]? = some x) : (l.take (k + 1)).any q = ((l.take k).any q || q x) := by
  rw [List.take_add_one, h, Option.toList_some, List.any_append]; simp
theorem all_take {α : Type} (q : α → Bool) {l : List α} {k : Nat} {x : α} (h : l[k]? = some x) : (l.take (k + 1)).all q = ((l.take k).all q && q x) := by
  rw [List.take_add_one, h, Option.toList_some, List.all_append]; simp
theorem map_take {α β : Type} (f : α → β) {l : List α} {k : Nat} {x : α} (h : l[k]? = some x) : (l.take (k + 1)).map f = (l.take k).map f ++ [f x] := by
  rw [List.take_add_one, h, Option.toList_some, List.map_append]; rfl
def fidx {α : Type} (q : α → Bool) : List α → Int → Int
  | [], _ => -1
  | x :: l, i => if q x = true then i else fidx q l (i + 1)
theorem fidx_drop {α : Type} (q : α → Bool) (l : List α) (k : Nat) (x : α) (h : l[k]? = some x) : fidx q (l.drop k) k = if q x = true then (k : Int) else fidx q (l.drop (k + 1)) ((k + 1 : Nat) : Int) := by
  rw [dropG h, fidx]; rfl
theorem fidx_ge {α : Type} (q : α → Bool) : ∀ (l : List α) (i : Int), 0 ≤ i → decide (0 ≤ fidx q l i) = l.any q
  | [], i, _ => by simp [fidx]
  | x :: l, i, hi => by
    rw [fidx, List.any_cons]
    cases q x with
    | true => simp [hi]
    | false => rw [if_neg (by simp), fidx_ge q l (i + 1) (by omega), Bool.false_or]
theorem fidx_any {α : Type} (q : α → Bool) (l : List α) : decide (0 ≤ fidx q l 0) = l.any q := fidx_ge q l 0 (Int.le_refl _)
def btw (lo n hi : Int) : Bool := decide (lo ≤ n) && decide (n ≤ hi)
theorem btw_t {lo n hi : Int} (h : btw lo n hi = true) : lo ≤ n ∧ n ≤ hi := by
  unfold btw at h; simpa using h
theorem btw_f {lo n hi : Int} (h : btw lo n hi = false) : ¬ (lo ≤ n ∧ n ≤ hi) := by
  unfold btw at h; simp at h; omega
theorem btw_mk {lo n hi : Int} (h : lo ≤ n ∧ n ≤ hi) : btw lo n hi = true := by unfold btw; simp [h]
theorem any_not {α : Type} (q : α → Bool) (l : List α) : l.any (fun x => !q x) = !(l.all q) := by
  induction l with
  | nil => rfl
  | cons x l ih => rw [List.any_cons, List.all_cons, ih]; cases q x <;> simp
theorem all_mem {α : Type} {q : α → Bool} {l : List α} (h : l.all q = true) {x : α} (hx : x ∈ l) : q x = true := List.all_eq_true.1 h x hx
end Um
namespace Um
open Go Go.Sx Go.RowKit
/-- What is made of the first elements of a list, and zeros behind it. -/
def fillF (f : Int → Int) (l : List Int) (k : Nat) : List Int := (l.take k).map f ++ List.replicate (l.length - k) 0
theorem fill_len (f : Int → Int) (l : List Int) (k : Nat) (h : k ≤ l.length) : (fillF f l k).length = l.length := by
  unfold fillF
  rw [List.length_append, List.length_map, List.length_take, List.length_replicate]; omega
theorem fill_set (f : Int → Int) {l : List Int} {k : Nat} {x : Int} (h : l[k]? = some x) : (fillF f l k).set k (f x) = fillF f l (k + 1) := by
  have hk := (List.getElem?_eq_some_iff.1 h).1
  unfold fillF
  rw [map_take f h, show l.length - k = (l.length - (k + 1)) + 1 by omega, List.replicate_succ, List.set_append_right _ _ (by simp; omega), List.length_map, List.length_take, show k - min k l.length = 0 by omega, List.set_cons_zero, List.append_assoc]; rfl
theorem fill_0 (f : Int → Int) (l : List Int) : fillF f l 0 = List.replicate l.length 0 := by simp [fillF]
theorem fill_all (f : Int → Int) (l : List Int) : fillF f l l.length = l.map f := by simp [fillF]
theorem bump_nn {out : List Int} {i : Nat} (h : ∀ x ∈ out, 0 ≤ x) : ∀ x ∈ bump out i, 0 ≤ x := fun x hx => by
  unfold bump at hx
  rcases List.mem_or_eq_of_mem_set hx with hx | rfl
  · exact h x hx
  · have := getD_nn h i; omega
theorem replicate_enInt (n : Nat) : (List.replicate n (0 : Int)).flatMap enInt = List.replicate n (.int .i64 0) := by
  induction n with
  | zero => rfl
  | succ n ih => rw [List.replicate_succ, List.flatMap_cons, ih, List.replicate_succ]; rfl
end Um
namespace Go.Proofs.YtppfniekcgnmjaaGreat.Pu
open Go Go.Sx Go.RowKit Um
abbrev encDu (d : DueV) : List Value := [.int .i64 d.rank, .int .i64 d.amount]
structure PartV where
  name : ByteArray
  value : Int
  A : Option Addr
  c : Nat
  dues : List DueV
abbrev encPa (p : PartV) : List Value := [.string p.name, .int .i64 p.value, .slice p.A p.dues.length p.c]
structure PorV where
  price : Int
  A : Option Addr
  c : Nat
  paid : List Int
  left : Int
abbrev encPo (p : PorV) : List Value := [.int .i64 p.price, .slice p.A p.paid.length p.c, .int .i64 p.left]
def amtB (n : Int) : Bool := btw 0 n 67108864
def weiB (l : List Int) : Bool := btw 1 l.length 24 && l.all amtB && decide (0 < sumI l)
def dueB (d : DueV) : Bool := btw 0 d.rank 9 && amtB d.amount
def duesB (l : List DueV) : Bool := decide (l.length ≤ 24) && l.all dueB
theorem wei_t {l : List Int} (h : weiB l = true) : 1 ≤ l.length ∧ l.length ≤ 24 ∧ (∀ x ∈ l, 0 ≤ x ∧ x ≤ 67108864) ∧ 0 < sumI l ∧ sumI l ≤ 1610612736 := by
  unfold weiB at h
  rw [Bool.and_eq_true, Bool.and_eq_true, decide_eq_true_eq] at h
  obtain ⟨⟨h1, h2⟩, h3⟩ := h
  have h4 := btw_t h1
  have h5 : ∀ x ∈ l, 0 ≤ x ∧ x ≤ 67108864 := fun x hx => btw_t (all_mem h2 hx)
  refine ⟨by omega, by omega, h5, h3, ?_⟩
  have := sumI_le_mul (m := 67108864) (fun x hx => (h5 x hx).2)
  omega
theorem dues_t {l : List DueV} (h : duesB l = true) : l.length ≤ 24 ∧ (∀ d ∈ l, (0 ≤ d.rank ∧ d.rank ≤ 9) ∧ 0 ≤ d.amount ∧ d.amount ≤ 67108864) := by
  unfold duesB at h
  rw [Bool.and_eq_true, decide_eq_true_eq] at h
  exact ⟨h.1, fun d hd => by have := all_mem h.2 hd; unfold dueB at this; rw [Bool.and_eq_true] at this; exact ⟨btw_t this.1, btw_t this.2⟩⟩
theorem dues_ok {l : List DueV} (h : duesB l = true) : DuesOk l := fun d hd => ((dues_t h).2 d hd).2.1
theorem sumI_take_le {l : List Int} (h : ∀ x ∈ l, 0 ≤ x) (k : Nat) : 0 ≤ sumI (l.take k) ∧ sumI (l.take k) ≤ sumI l := by
  have h1 := sumI_nonneg (l := l.take k) fun x hx => h x (List.mem_of_mem_take hx)
  have h2 := sumI_nonneg (l := l.drop k) fun x hx => h x (List.mem_of_mem_drop hx)
  have h3 : sumI l = sumI (l.take k) + sumI (l.drop k) := by rw [← sumI_append, List.take_append_drop]
  omega
theorem mul_bd {a b m n : Int} (ha : 0 ≤ a ∧ a ≤ m) (hb : 0 ≤ b ∧ b ≤ n) : 0 ≤ a * b ∧ a * b ≤ m * n :=
  ⟨Int.mul_nonneg ha.1 hb.1, Int.mul_le_mul ha.2 hb.2 hb.1 (by omega)⟩
def natsI (l : List Nat) : List Int := l.map fun n : Nat => (n : Int)
theorem nats_len (l : List Nat) : (natsI l).length = l.length := List.length_map ..
theorem nats_get {l : List Nat} {k i : Nat} (h : l[k]? = some i) : (natsI l)[k]? = some (i : Int) := by simp [natsI, h]
def ShrL (l : List Int) (all : Int) : List Int := if weiB l && btw 0 all 34359738368 then shareL l all else []
def ShrE (l : List Int) (all : Int) : Int := if weiB l then (if btw 0 all 34359738368 then 0 else 7) else 70
structure PorP where
  price : Int
  paid : List Int
  left : Int
abbrev PorV.p (x : PorV) : PorP := ⟨x.price, x.paid, x.left⟩
def por1 (p : PartV) (n : Int) : PorP := ⟨n, (spreadL p.dues n).1, (spreadL p.dues n).2⟩
def valsL (ps : List PartV) : List Int := ps.map fun p => p.value
def portsL (price : Int) (ps : List PartV) : List PorP := List.zipWith por1 ps (shareL (valsL ps) price)
def namB (isW : ByteArray → Bool) (ps : List PartV) : Nat → Bool
  | 0 => true
  | k + 1 => namB isW ps k && (match ps[k]? with | none => true | some p => isW p.name && !((ps.take k).any fun o => o.name == p.name))
theorem namB_no {isW : ByteArray → Bool} {ps : List PartV} {k : Nat} (h : namB isW ps k = false) : ∀ n, namB isW ps (k + n) = false
  | 0 => h
  | n + 1 => by rw [← Nat.add_assoc, namB, namB_no h n]; rfl
def porE (isW : ByteArray → Bool) (price : Int) (ps : List PartV) : Int :=
  if !(btw 0 price 67108864) then 7 else if !(btw 1 ps.length 8) then 72 else if !(namB isW ps ps.length) then 72 else if !(weiB (valsL ps)) then 72 else if !(ps.all fun p => duesB p.dues) then 71 else 0
def porL (isW : ByteArray → Bool) (price : Int) (ps : List PartV) : List PorP := if porE isW price ps = 0 then portsL price ps else []
theorem porL_no {isW : ByteArray → Bool} {price : Int} {ps : List PartV} (h : porE isW price ps ≠ 0) : porL isW price ps = [] := if_neg h
theorem encPo_one (x : PorV) : ∀ v ∈ encPo x, v.oneCell' = true := by simp [encPo, Value.oneCell']
/-- what is paid lies where the portions say -/
def rowsP (fp : Nat → Prop) (l : List PorV) : Fact where
  fp := fp
  P := fun w => ∀ r ∈ l, (sl fp 1 enInt r.A r.paid).P w
  stab := fun h k r hr => (sl fp 1 enInt r.A r.paid).stab h (k r hr)
theorem rowsP_snoc {F : Nat → Prop} {w0 w : World} {O S : List Fact} (hp : Hp F w0 O S w) {fp fq : Nat → Prop} {l : List PorV} {A : Option Addr} {c : Nat} {xs : List Int} {n m : Int} (h : rowsP fp l ∈ S) (h2 : sl fq 1 enInt A xs ∈ S) :
    (rowsP (fun i => fp i ∨ fq i) (l ++ [⟨n, A, c, xs, m⟩])).P w ∧ ∀ b, fp b ∨ fq b → b < w.heap.size ∧ ∀ g ∈ O, ¬ g.fp b := by
  refine ⟨fun r hr => ?_, fun b hb => ?_⟩
  · rcases List.mem_append.1 hr with hr | hr
    · exact sl_fp ((hp.shared _ h).1 r hr) (fun b hb => .inl hb)
    · rw [List.mem_singleton.1 hr]; exact sl_fp (hp.shared _ h2).1 (fun b hb => .inr hb)
  · rcases hb with hb | hb
    · exact ⟨(hp.shared _ h).2.1 b hb, fun g hg => (hp.shared _ h).2.2 g hg b hb⟩
    · exact ⟨(hp.shared _ h2).2.1 b hb, fun g hg => (hp.shared _ h2).2.2 g hg b hb⟩
theorem ports_take {price : Int} {ps : List PartV} {k : Nat} {p : PartV} {n : Int} (h : ps[k]? = some p) (h2 : (shareL (valsL ps) price)[k]? = some n) : (portsL price ps).take (k + 1) = (portsL price ps).take k ++ [por1 p n] := by
  rw [List.take_add_one]
  congr 1
  unfold portsL
  rw [List.getElem?_zipWith, h, h2]; rfl
theorem Rd.takeL {α : Type} {w : World} {sz : Nat} {enc : α → List Value} {A : Option Addr} {xs : List α} (h : Rd w sz enc A xs) (n : Nat) : Rd w sz enc A (xs.take n) := by
  refine ⟨Nat.le_trans (by rw [List.length_take]; omega) h.1, fun hne => ?_⟩
  obtain ⟨a, ha, hf, hc⟩ := h.2 (fun e => hne (by rw [e, List.take_nil]))
  refine ⟨a, ha, hf, fun i x j u hx hu => hc i x j u ?_ hu⟩
  rw [List.getElem?_take] at hx
  split at hx
  · exact hx
  · cases hx
/-- what a part's memory is -/
structure GoodP (w : World) (p : PartV) : Prop where
  rd : Rd w 2 encDu p.A p.dues
  nm : p.name.size ≤ 9223372036854775807
theorem GoodP.mono {w w' : World} {p : PartV} (h : GoodP w p) (hg : Grow w w') : GoodP w' p := ⟨h.rd.mono hg, h.nm⟩
end Go.Proofs.YtppfniekcgnmjaaGreat.Pu
namespace Am

structure RiseV where
  fr : Int
  by_ : Int
instance : Inhabited RiseV := ⟨⟨0, 0⟩⟩
/-- by how much bids rise: the last rise that has begun -/
def byG (p : Int) : List RiseV → Int → Int
  | [], b => b
  | r :: l, b => byG p l (if r.fr ≤ p then r.by_ else b)
def byR (lad : List RiseV) (p : Int) : Int := byG p lad 0
theorem byG_drop (p b : Int) (l : List RiseV) (k : Nat) (r : RiseV) (h : l[k]? = some r) : byG p (l.drop k) b = byG p (l.drop (k + 1)) (if r.fr ≤ p then r.by_ else b) := by
  obtain ⟨h1, h2⟩ := List.getElem?_eq_some_iff.1 h
  rw [List.drop_eq_getElem_cons h1, h2, byG]
theorem byG_late (p : Int) : ∀ (l : List RiseV) (b : Int), (∀ r ∈ l, p < r.fr) → byG p l b = b
  | [], _, _ => rfl
  | r :: l, b, h => by
    have := h r (List.mem_cons_self ..)
    rw [byG, if_neg (by omega), byG_late p l b (fun q hq => h q (List.mem_cons_of_mem _ hq))]
/-- the ladder's steps begin at ever greater numbers, the first one at 0 -/
structure LadOk (lad : List RiseV) : Prop where
  ne : 1 ≤ lad.length
  zero : (lad.getD 0 default).fr = 0
  inc : ∀ i, i + 1 < lad.length → (lad.getD i default).fr < (lad.getD (i + 1) default).fr
  by1 : ∀ r ∈ lad, 1 ≤ r.by_ ∧ r.by_ ≤ 100000
theorem LadOk.mono {lad : List RiseV} (h : LadOk lad) : ∀ (d i : Nat), i + d < lad.length → (lad.getD i default).fr + d ≤ (lad.getD (i + d) default).fr := by
  intro d
  induction d with
  | zero => intro i _; simp
  | succ d ih =>
    intro i hi
    have h1 := ih i (by omega)
    have h2 := h.inc (i + d) (by omega)
    rw [show i + (d + 1) = i + d + 1 by omega]
    omega
/-- the step at hand -/
def AtOk (lad : List RiseV) (a : Nat) (p : Int) : Prop := a < lad.length ∧ (lad.getD a default).fr ≤ p ∧ (a + 1 < lad.length → p < (lad.getD (a + 1) default).fr)
theorem byR_at {lad : List RiseV} (h : LadOk lad) {a : Nat} {p : Int} (ha : AtOk lad a p) : byR lad p = (lad.getD a default).by_ := by
  have hal : a < lad.length := ha.1
  have hx : lad[a]? = some (lad.getD a default) := by rw [List.getD_eq_getElem?_getD, List.getElem?_eq_getElem ha.1]; rfl
  -- up to a: all have begun
  have early : ∀ (n : Nat) (b : Int), n ≤ a → byG p lad b = byG p (lad.drop n) (if n = 0 then b else (lad.getD (n - 1) default).by_) := by
    intro n
    induction n with
    | zero => intro b _; simp
    | succ n ih =>
      intro b hn
      have hy : lad[n]? = some (lad.getD n default) := by rw [List.getD_eq_getElem?_getD, List.getElem?_eq_getElem (by omega)]; rfl
      rw [ih b (by omega), byG_drop p _ lad n _ hy]
      have h1 := h.mono (a - n) n (by have := ha.1; omega)
      rw [show n + (a - n) = a by omega] at h1
      have h2 := ha.2.1
      rw [if_pos (by omega), if_neg (by omega)]; rfl
  unfold byR
  rw [early a 0 (Nat.le_refl _), byG_drop p _ lad a _ hx, if_pos ha.2.1, byG_late]
  intro r hr
  obtain ⟨i, hi⟩ := List.mem_iff_getElem?.1 hr
  rw [List.getElem?_drop] at hi
  obtain ⟨h1, h2⟩ := List.getElem?_eq_some_iff.1 hi
  have h3 := ha.2.2 (by omega)
  have h4 := h.mono i (a + 1) h1
  have h5 : lad.getD (a + 1 + i) default = r := by rw [List.getD_eq_getElem?_getD, hi]; rfl
  rw [h5] at h4
  omega
theorem byR_bd {lad : List RiseV} (h : LadOk lad) {p : Int} (hp : 0 ≤ p) : 1 ≤ byR lad p ∧ byR lad p ≤ 100000 := by
  have key : ∀ (n : Nat), n < lad.length → (lad.getD n default).fr ≤ p → ∃ a, AtOk lad a p := by
    intro n hn hf
    induction hd : lad.length - n generalizing n with
    | zero => omega
    | succ d ih =>
      by_cases h1 : n + 1 < lad.length ∧ (lad.getD (n + 1) default).fr ≤ p
      · exact ih (n + 1) h1.1 h1.2 (by omega)
      · exact ⟨n, hn, hf, fun h2 => by
          have : ¬ (lad.getD (n + 1) default).fr ≤ p := fun h3 => h1 ⟨h2, h3⟩
          omega⟩
  obtain ⟨a, ha⟩ := key 0 h.ne (by rw [h.zero]; exact hp)
  rw [byR_at h ha]
  refine h.by1 _ ?_
  rw [List.getD_eq_getElem?_getD, List.getElem?_eq_getElem ha.1]
  exact List.getElem_mem _
def nx (lad : List RiseV) (p : Int) : Int := p + byR lad p
/-- rungs from one on -/
def rgs (lad : List RiseV) : Nat → Int → List Int
  | 0, _ => []
  | n + 1, p => if p ≤ 100000 then p :: rgs lad n (nx lad p) else []
theorem rgs_s (lad : List RiseV) (n : Nat) (p : Int) : rgs lad (n + 1) p = if p ≤ 100000 then p :: rgs lad n (nx lad p) else [] := rfl
theorem rgs_fuel {lad : List RiseV} (h : LadOk lad) : ∀ (n : Nat) (p : Int), 0 ≤ p → 100001 ≤ p + n → rgs lad (n + 1) p = rgs lad n p := by
  intro n
  induction n with
  | zero => intro p _ h1; rw [rgs_s, if_neg (by omega)]; rfl
  | succ n ih =>
    intro p h0 h1
    rw [rgs_s lad (n + 1) p, rgs_s lad n p]
    have := byR_bd h h0
    split
    · rw [ih (nx lad p) (by unfold nx; omega) (by unfold nx; omega)]
    · rfl
/-- all rungs from one on -/
def rgL (lad : List RiseV) (p : Int) : List Int := rgs lad 100001 p
theorem rgL_step {lad : List RiseV} (h : LadOk lad) {p : Int} (h0 : 0 ≤ p) : rgL lad p = if p ≤ 100000 then p :: rgL lad (nx lad p) else [] := by
  unfold rgL
  have := byR_bd h h0
  rw [← rgs_fuel h 100001 p h0 (by omega), rgs_s]
/-- the last one that is not greater than a number -/
def rungF (n : Int) : List Int → Int → Int
  | [], out => out
  | p :: l, out => if n < p then out else rungF n l p
def behF (n : Int) : List Int → Int
  | [] => 0
  | p :: l => if n < p then p else behF n l
/-- in order, and greater than 0 -/
structure Asc (rs : List Int) : Prop where
  lt : rs.Pairwise (· < ·)
  pos : ∀ p ∈ rs, 1 ≤ p ∧ p ≤ 100000
theorem rungF_spec {n : Int} : ∀ (rs : List Int) (out : Int), Asc rs → (rungF n rs out = out ∧ ∀ p ∈ rs, n < p) ∨ (rungF n rs out ∈ rs ∧ rungF n rs out ≤ n ∧ ∀ p ∈ rs, p ≤ n → p ≤ rungF n rs out)
  | [], _, _ => .inl ⟨rfl, fun _ h => by cases h⟩
  | p :: l, out, h => by
    have h1 := List.pairwise_cons.1 h.lt
    have ha : Asc l := ⟨h1.2, fun q hq => h.pos q (List.mem_cons_of_mem _ hq)⟩
    rw [rungF]
    split
    · rename_i hp
      refine .inl ⟨rfl, fun q hq => ?_⟩
      rcases List.mem_cons.1 hq with rfl | hq
      · exact hp
      · have := h1.1 q hq; omega
    · rename_i hp
      rcases rungF_spec l p ha with h2 | h2
      · refine .inr ⟨by rw [h2.1]; exact List.mem_cons_self .., by rw [h2.1]; omega, fun q hq hqn => ?_⟩
        rcases List.mem_cons.1 hq with rfl | hq
        · rw [h2.1]; exact Int.le_refl _
        · have := h2.2 q hq; omega
      · refine .inr ⟨List.mem_cons_of_mem _ h2.1, h2.2.1, fun q hq hqn => ?_⟩
        rcases List.mem_cons.1 hq with rfl | hq
        · have := h1.1 _ h2.1; omega
        · exact h2.2.2 q hq hqn
theorem behF_spec {n : Int} : ∀ rs : List Int, Asc rs → (behF n rs = 0 ∧ ∀ p ∈ rs, p ≤ n) ∨ (behF n rs ∈ rs ∧ n < behF n rs ∧ ∀ p ∈ rs, n < p → behF n rs ≤ p)
  | [], _ => .inl ⟨rfl, fun _ h => by cases h⟩
  | p :: l, h => by
    have h1 := List.pairwise_cons.1 h.lt
    have ha : Asc l := ⟨h1.2, fun q hq => h.pos q (List.mem_cons_of_mem _ hq)⟩
    rw [behF]
    split
    · rename_i hp
      refine .inr ⟨List.mem_cons_self .., hp, fun q hq hqn => ?_⟩
      rcases List.mem_cons.1 hq with rfl | hq
      · exact Int.le_refl _
      · have := h1.1 q hq; omega
    · rename_i hp
      rcases behF_spec l ha with h2 | h2
      · refine .inl ⟨h2.1, fun q hq => ?_⟩
        rcases List.mem_cons.1 hq with rfl | hq
        · omega
        · exact h2.2 q hq
      · refine .inr ⟨List.mem_cons_of_mem _ h2.1, h2.2.1, fun q hq hqn => ?_⟩
        rcases List.mem_cons.1 hq with rfl | hq
        · omega
        · exact h2.2.2 q hq hqn
theorem rgs_asc {lad : List RiseV} (h : LadOk lad) : ∀ (n : Nat) (p : Int), 1 ≤ p → Asc (rgs lad n p) ∧ ∀ q ∈ rgs lad n p, p ≤ q := by
  intro n
  induction n with
  | zero => intro p _; exact ⟨⟨List.Pairwise.nil, fun _ h => by cases h⟩, fun _ h => by cases h⟩
  | succ n ih =>
    intro p hp
    rw [rgs]
    have hb := byR_bd h (show 0 ≤ p by omega)
    split
    · rename_i h1
      have := ih (nx lad p) (by unfold nx; omega)
      refine ⟨⟨List.pairwise_cons.2 ⟨fun q hq => by have := this.2 q hq; unfold nx at this; omega, this.1.lt⟩, fun q hq => ?_⟩, fun q hq => ?_⟩
      · rcases List.mem_cons.1 hq with rfl | hq
        · omega
        · exact this.1.pos q hq
      · rcases List.mem_cons.1 hq with rfl | hq
        · exact Int.le_refl _
        · have := this.2 q hq; unfold nx at this; omega
    · exact ⟨⟨List.Pairwise.nil, fun _ h => by cases h⟩, fun _ h => by cases h⟩
theorem rgL_asc {lad : List RiseV} (h : LadOk lad) {p : Int} (hp : 1 ≤ p) : Asc (rgL lad p) := (rgs_asc h _ p hp).1
/-- the rung behind a rung is the next one -/
theorem beh_next {lad : List RiseV} (h : LadOk lad) : ∀ (n : Nat) (p q : Int), 1 ≤ p → q ∈ rgs lad n p → 100001 ≤ p + n → behF q (rgs lad n p) = if nx lad q ≤ 100000 then nx lad q else 0 := by
  intro n
  induction n with
  | zero => intro p q _ hq; cases hq
  | succ n ih =>
    intro p q hp hq hf
    have hb := byR_bd h (show 0 ≤ p by omega)
    rw [rgs] at hq ⊢
    split at hq
    · rename_i h1
      rw [if_pos h1, behF]
      rcases List.mem_cons.1 hq with rfl | hq
      · rw [if_neg (by omega)]
        cases n with
        | zero => rw [if_neg (by unfold nx; omega)]; rfl
        | succ m =>
          rw [rgs_s]
          split
          · rename_i h2
            rw [behF, if_pos (by unfold nx; omega)]
          · rfl
      · have h2 := (rgs_asc h n (nx lad p) (by unfold nx; omega)).2 q hq
        unfold nx at h2
        rw [if_neg (by omega)]
        exact ih (nx lad p) q (by unfold nx; omega) hq (by unfold nx; omega)
    · cases hq
theorem behL_next {lad : List RiseV} (h : LadOk lad) {p q : Int} (hp : 1 ≤ p) (hq : q ∈ rgL lad p) : behF q (rgL lad p) = if nx lad q ≤ 100000 then nx lad q else 0 := beh_next h _ p q hp hq (by omega)
/-- the reference's way to the rung: one after the other, as long as the next one is not too great -/
def refR (lad : List RiseV) (m : Int) : Nat → Int → Int
  | 0, x => x
  | n + 1, x => if nx lad x ≤ m then refR lad m n (nx lad x) else x
theorem refR_rung {lad : List RiseV} (h : LadOk lad) (n : Int) : ∀ (k : Nat) (x : Int), 1 ≤ x → x ≤ min n 100000 → 100001 ≤ x + k → refR lad (min n 100000) k x = rungF n (rgs lad k x) 0 ∧ ∀ o, rungF n (rgs lad k x) o = rungF n (rgs lad k x) 0 := by
  intro k
  induction k with
  | zero => intro x h1 h2 h3; omega
  | succ k ih =>
    intro x h1 h2 h3
    have hb := byR_bd h (show 0 ≤ x by omega)
    have e : rgs lad (k + 1) x = x :: rgs lad k (nx lad x) := by rw [rgs, if_pos (by omega)]
    rw [e]
    simp only [rungF]
    rw [if_neg (by omega)]
    refine ⟨?_, fun o => by rw [if_neg (by omega)]⟩
    rw [refR]
    by_cases hn : nx lad x ≤ min n 100000
    · rw [if_pos hn]
      have := ih (nx lad x) (by unfold nx; omega) hn (by unfold nx; omega)
      rw [this.1, this.2 x]
    · rw [if_neg hn]
      cases k with
      | zero => rfl
      | succ k =>
        rw [rgs]
        split
        · rw [rungF, if_pos (by omega)]
        · rfl
end Am
namespace Am
open Go.Sx (getL putL getL_put)

structure BidV where
  who : Int
  way : Int
  most : Int
  deriving DecidableEq, Inhabited
structure LeadV where
  who : Int
  limit : Int
  way : Int
  second : Int
  price : Int
  deriving DecidableEq, Inhabited
structure KnockV where
  winner : Int
  price : Int
  deriving DecidableEq, Inhabited
def beats (a b : BidV) : Bool := if a.most = b.most then (if a.way = b.way then decide (a.who < b.who) else decide (a.way < b.way)) else decide (b.most < a.most)
theorem beats_iff (a b : BidV) : beats a b = true ↔ b.most < a.most ∨ (a.most = b.most ∧ (a.way < b.way ∨ (a.way = b.way ∧ a.who < b.who))) := by
  unfold beats
  split
  · split <;> simp <;> omega
  · simp; omega
theorem beats_no (a b : BidV) : beats a b = false ↔ a.most < b.most ∨ (a.most = b.most ∧ (b.way < a.way ∨ (a.way = b.way ∧ b.who ≤ a.who))) := by
  rw [← Bool.not_eq_true, beats_iff]; omega
theorem bid_ext {a b : BidV} (h1 : a.who = b.who) (h2 : a.way = b.way) (h3 : a.most = b.most) : a = b := by cases a; cases b; simp_all
/-- the one that beats all others -/
structure IsWin (os : List BidV) (W : BidV) : Prop where
  mem : W ∈ os
  best : ∀ o ∈ os, o = W ∨ beats W o = true
theorem IsWin.uniq {os : List BidV} {W V : BidV} (h : IsWin os W) (k : IsWin os V) : W = V := by
  rcases h.best V k.mem with e | e
  · exact e.symm
  · rcases k.best W h.mem with e' | e'
    · exact e'
    · rw [beats_iff] at e e'; omega
theorem IsWin.perm {os ps : List BidV} {W : BidV} (h : IsWin os W) (hp : os.Perm ps) : IsWin ps W := ⟨hp.mem_iff.1 h.mem, fun o ho => h.best o (hp.mem_iff.2 ho)⟩
theorem IsWin.most {os : List BidV} {W o : BidV} (h : IsWin os W) (ho : o ∈ os) : o.most ≤ W.most := by
  rcases h.best o ho with e | e
  · rw [e]; exact Int.le_refl _
  · rw [beats_iff] at e; omega
theorem IsWin.snoc {os : List BidV} {W o : BidV} (h : IsWin os W) : IsWin (os ++ [o]) (if beats o W then o else W) := by
  refine ⟨?_, fun p hp => ?_⟩
  · split
    · simp
    · exact List.mem_append_left _ h.mem
  · have hb : p ∈ os ∨ p = o := by simpa using hp
    by_cases hc : beats o W = true
    · rw [if_pos hc]
      rcases hb with hb | hb
      · rcases h.best p hb with e | e
        · exact .inr (e ▸ hc)
        · right; rw [beats_iff] at *; omega
      · exact .inl hb
    · rw [if_neg hc]
      rcases hb with hb | hb
      · exact h.best p hb
      · subst hb
        rw [Bool.not_eq_true, beats_no] at hc
        by_cases he : p = W
        · exact .inl he
        · right
          rw [beats_iff]
          by_cases h3 : p.who = W.who ∧ p.way = W.way ∧ p.most = W.most
          · exact absurd (bid_ext h3.1 h3.2.1 h3.2.2) he
          · omega
def winO : List BidV → Option BidV
  | [] => none
  | o :: l => match winO l with
    | none => some o
    | some v => some (if beats o v then o else v)
theorem winO_spec : ∀ os : List BidV, (winO os = none ∧ os = []) ∨ (∃ W, winO os = some W ∧ IsWin os W)
  | [] => .inl ⟨rfl, rfl⟩
  | o :: l => by
    right
    rcases winO_spec l with ⟨h, e⟩ | ⟨W, h, hw⟩
    · rw [e, winO, winO]; exact ⟨o, rfl, by simp, by simp⟩
    · rw [winO, h]
      exact ⟨_, rfl, (hw.snoc (o := o)).perm (List.perm_append_comm (l₁ := l) (l₂ := [o]))⟩
theorem winO_eq {os : List BidV} {W : BidV} (h : IsWin os W) : winO os = some W := by
  rcases winO_spec os with ⟨_, e⟩ | ⟨V, e, hv⟩
  · rw [e] at h; cases h.mem
  · rw [e, hv.uniq h]
/-- the greatest rung of the others (0: there is none) -/
structure IsSec (os : List BidV) (w : Int) (s : Int) : Prop where
  le : ∀ o ∈ os, o.who ≠ w → o.most ≤ s
  at_ : s = 0 ∨ ∃ o ∈ os, o.who ≠ w ∧ o.most = s
theorem IsSec.uniq {os : List BidV} {w s t : Int} (hp : ∀ o ∈ os, 1 ≤ o.most) (h : IsSec os w s) (k : IsSec os w t) : s = t := by
  rcases h.at_ with e | ⟨o, ho, hw, e⟩
  · rcases k.at_ with e' | ⟨o', ho', hw', e'⟩
    · rw [e, e']
    · have := h.le o' ho' hw'; have := hp o' ho'; omega
  · have h1 := k.le o ho hw
    rcases k.at_ with e' | ⟨o', ho', hw', e'⟩
    · have := hp o ho; omega
    · have := h.le o' ho' hw'; omega
theorem IsSec.perm {os ps : List BidV} {w s : Int} (h : IsSec os w s) (hp : os.Perm ps) : IsSec ps w s :=
  ⟨fun o ho => h.le o (hp.mem_iff.2 ho), h.at_.imp id fun ⟨o, ho, x⟩ => ⟨o, hp.mem_iff.1 ho, x⟩⟩
def secO (w : Int) : List BidV → Int
  | [] => 0
  | o :: l => if o.who = w then secO w l else max o.most (secO w l)
theorem secO_spec (w : Int) : ∀ os : List BidV, (∀ o ∈ os, 1 ≤ o.most) → IsSec os w (secO w os) ∧ 0 ≤ secO w os
  | [], _ => ⟨⟨fun _ h => (by cases h), .inl rfl⟩, Int.le_refl _⟩
  | o :: l, hp => by
    obtain ⟨h, h0⟩ := secO_spec w l (fun q hq => hp q (List.mem_cons_of_mem _ hq))
    rw [secO]
    by_cases hw : o.who = w
    · rw [if_pos hw]
      refine ⟨⟨fun q hq hne => ?_, h.at_.imp id fun ⟨p, hp, x⟩ => ⟨p, List.mem_cons_of_mem _ hp, x⟩⟩, h0⟩
      rcases List.mem_cons.1 hq with e | e
      · exact absurd (e ▸ hw) hne
      · exact h.le q e hne
    · rw [if_neg hw]
      refine ⟨⟨fun q hq hne => ?_, ?_⟩, by omega⟩
      · rcases List.mem_cons.1 hq with e | e
        · rw [e]; omega
        · have := h.le q e hne; omega
      · by_cases hm : secO w l ≤ o.most
        · exact .inr ⟨o, List.mem_cons_self .., hw, by omega⟩
        · rcases h.at_ with e | ⟨p, hp', x, y⟩
          · have := hp o (List.mem_cons_self ..); omega
          · exact .inr ⟨p, List.mem_cons_of_mem _ hp', x, by omega⟩
/-- what is paid if others go up to a rung -/
def priceF (rs : List Int) (start limit second : Int) : Int := if second = limit then limit else if second = 0 then start else behF second rs
def offer1 (rs : List Int) (b : BidV) : BidV := ⟨b.who, b.way, rungF b.most rs 0⟩
def offs (rs : List Int) (bs : List BidV) : List BidV := (bs.map (offer1 rs)).filter (fun o => decide (0 < o.most))
def knockF (rs : List Int) (start least : Int) (os : List BidV) : KnockV := match winO os with
  | none => ⟨-1, 0⟩
  | some W => if least = 0 ∨ W.most < least then ⟨-1, 0⟩ else ⟨W.who, max least (priceF rs start W.most (secO W.who os))⟩
theorem knock_eq {rs : List Int} {start least s : Int} {os : List BidV} {W : BidV} (h : IsWin os W) (k : IsSec os W.who s) (hp : ∀ o ∈ os, 1 ≤ o.most) : knockF rs start least os = if least = 0 ∨ W.most < least then ⟨-1, 0⟩ else ⟨W.who, max least (priceF rs start W.most s)⟩ := by
  have e := (secO_spec W.who os hp).1.uniq hp k
  rw [knockF, winO_eq h]
  simp only [e]
theorem knock_perm {rs : List Int} {start least : Int} {os ps : List BidV} (h : os.Perm ps) (hp : ∀ o ∈ os, 1 ≤ o.most) : knockF rs start least os = knockF rs start least ps := by
  have hp' : ∀ o ∈ ps, 1 ≤ o.most := fun o ho => hp o (h.mem_iff.2 ho)
  rcases winO_spec os with ⟨_, e⟩ | ⟨W, _, hw⟩
  · subst e; rw [List.nil_perm.1 h]
  · rw [knock_eq hw (secO_spec W.who os hp).1 hp, knock_eq (hw.perm h) ((secO_spec W.who os hp).1.perm h) hp']
/-- the room's step -/
def stepP (rs : List Int) (start : Int) (x : LeadV) (o : BidV) : LeadV :=
  let y : LeadV := if x.who = o.who then (if beats o ⟨x.who, x.way, x.limit⟩ then ⟨x.who, o.most, o.way, x.second, x.price⟩ else x)
    else if x.who = -1 ∨ beats o ⟨x.who, x.way, x.limit⟩ = true then ⟨o.who, o.most, o.way, x.limit, 0⟩
    else ⟨x.who, x.limit, x.way, max x.second o.most, x.price⟩
  ⟨y.who, y.limit, y.way, y.second, priceF rs start y.limit y.second⟩
def roomS (rs : List Int) (start : Int) (x : LeadV) (b : BidV) : LeadV := if 0 < (offer1 rs b).most then stepP rs start x (offer1 rs b) else x
def roomG (rs : List Int) (start : Int) : LeadV → List BidV → List LeadV
  | _, [] => []
  | x, b :: bs => roomS rs start x b :: roomG rs start (roomS rs start x b) bs
def lead0 : LeadV := ⟨-1, 0, 0, 0, 0⟩
/-- what the lead says of the offers so far -/
def LeadIs (rs : List Int) (start : Int) (os : List BidV) (x : LeadV) : Prop :=
  (os = [] ∧ x = lead0) ∨ (∃ W, IsWin os W ∧ x.who = W.who ∧ x.limit = W.most ∧ x.way = W.way ∧ IsSec os W.who x.second ∧ 0 ≤ x.second ∧ x.second ≤ x.limit ∧ x.price = priceF rs start x.limit x.second)
theorem lead_step {rs : List Int} {start : Int} {os : List BidV} {x : LeadV} {o : BidV} (h : LeadIs rs start os x) (ho : 1 ≤ o.most) (hw : 0 ≤ o.who) (hp : ∀ q ∈ os, 1 ≤ q.most) (hq : ∀ q ∈ os, 0 ≤ q.who) : LeadIs rs start (os ++ [o]) (stepP rs start x o) := by
  right
  rcases h with ⟨e, ex⟩ | ⟨W, hW, h1, h2, h3, h4, h0, h5, h6⟩
  · subst e; subst ex
    refine ⟨o, ⟨by simp, by simp⟩, ?_⟩
    unfold stepP lead0
    rw [if_neg (by simp only; omega), if_pos (.inl rfl)]
    exact ⟨rfl, rfl, rfl, ⟨fun q hq hne => by simp at hq; rw [hq] at hne; exact absurd rfl hne, .inl rfl⟩, Int.le_refl _, by simp only; omega, rfl⟩
  · have hb : (⟨x.who, x.way, x.limit⟩ : BidV) = W := by cases W; simp_all
    have hww := hq W hW.mem
    have hwm := hp W hW.mem
    refine ⟨_, hW.snoc, ?_⟩
    unfold stepP
    rw [hb]
    by_cases hc : x.who = o.who
    · rw [if_pos hc]
      have hwo : W.who = o.who := by omega
      have hsec : IsSec (os ++ [o]) W.who x.second := ⟨fun q hq hne => by
        rcases List.mem_append.1 hq with e | e
        · exact h4.le q e hne
        · simp at e; rw [e] at hne; exact absurd hwo.symm hne, h4.at_.imp id fun ⟨q, hq, y⟩ => ⟨q, List.mem_append_left _ hq, y⟩⟩
      by_cases hbt : beats o W = true
      · rw [if_pos hbt, if_pos hbt]
        have hm := (beats_iff o W).1 hbt
        exact ⟨hc, rfl, rfl, hwo ▸ hsec, h0, by simp only; omega, rfl⟩
      · rw [if_neg hbt, if_neg hbt]
        exact ⟨h1, h2, h3, hsec, h0, h5, rfl⟩
    · rw [if_neg hc]
      by_cases hbt : beats o W = true
      · rw [if_pos (.inr hbt), if_pos hbt]
        have hm := (beats_iff o W).1 hbt
        refine ⟨rfl, rfl, rfl, ⟨fun q hq hne => ?_, .inr ⟨W, List.mem_append_left _ hW.mem, by omega, h2.symm⟩⟩, by simp only; omega, by simp only; omega, rfl⟩
        rcases List.mem_append.1 hq with e | e
        · have := hW.most e; simp only; omega
        · simp at e; rw [e] at hne; exact absurd rfl hne
      · rw [if_neg (by rintro (h | h); omega; exact hbt h), if_neg hbt]
        rw [Bool.not_eq_true, beats_no] at hbt
        refine ⟨h1, h2, h3, ⟨fun q hq hne => ?_, ?_⟩, by simp only; omega, by simp only; omega, rfl⟩
        · rcases List.mem_append.1 hq with e | e
          · have := h4.le q e hne; simp only; omega
          · simp at e; rw [e]; simp only; omega
        · by_cases hmx : x.second ≤ o.most
          · exact .inr ⟨o, by simp, by omega, by simp only; omega⟩
          · rcases h4.at_ with e | ⟨q, hq', y, z⟩
            · omega
            · exact .inr ⟨q, List.mem_append_left _ hq', y, by simp only; omega⟩
theorem offs_cons (rs : List Int) (b : BidV) (bs : List BidV) : offs rs (b :: bs) = if 0 < (offer1 rs b).most then offer1 rs b :: offs rs bs else offs rs bs := by
  unfold offs
  rw [List.map_cons, List.filter_cons]
  by_cases h : 0 < (offer1 rs b).most
  · rw [decide_eq_true h, if_pos rfl, if_pos h]
  · rw [decide_eq_false h, if_neg (by simp), if_neg h]
theorem offs_snoc (rs : List Int) (b : BidV) (bs : List BidV) : offs rs (bs ++ [b]) = if 0 < (offer1 rs b).most then offs rs bs ++ [offer1 rs b] else offs rs bs := by
  unfold offs
  rw [List.map_append, List.filter_append]
  by_cases h : 0 < (offer1 rs b).most
  · rw [if_pos h]; congr 1; simp [h]
  · rw [if_neg h]; simp [h]
theorem offs_pos {rs : List Int} {bs : List BidV} {o : BidV} (h : o ∈ offs rs bs) : 1 ≤ o.most := by
  unfold offs at h
  have := of_decide_eq_true (List.mem_filter.1 h).2
  omega
theorem offs_who {rs : List Int} {bs : List BidV} {lo hi : Int} (hb : ∀ b ∈ bs, lo ≤ b.who ∧ b.who ≤ hi) {o : BidV} (h : o ∈ offs rs bs) : lo ≤ o.who ∧ o.who ≤ hi := by
  unfold offs at h
  obtain ⟨b, hb', e⟩ := List.mem_map.1 (List.mem_filter.1 h).1
  subst e
  exact hb b hb'
theorem offs_rung {rs : List Int} {bs : List BidV} (ha : Asc rs) {o : BidV} (h : o ∈ offs rs bs) : o.most ∈ rs := by
  have h1 := offs_pos h
  unfold offs at h
  obtain ⟨b, hb', e⟩ := List.mem_map.1 (List.mem_filter.1 h).1
  subst e
  rcases rungF_spec (n := b.most) rs 0 ha with ⟨e, _⟩ | ⟨e, _⟩
  · unfold offer1 at h1; rw [e] at h1; simp at h1
  · exact e
theorem offs_perm {rs : List Int} {bs cs : List BidV} (h : bs.Perm cs) : (offs rs bs).Perm (offs rs cs) := (h.map _).filter _
def roomE (rs : List Int) (start : Int) (bs : List BidV) : LeadV := bs.foldl (roomS rs start) lead0
theorem room_is {rs : List Int} {start : Int} (bs : List BidV) (hb : ∀ b ∈ bs, 0 ≤ b.who ∧ b.who ≤ 99) : ∀ n, n ≤ bs.length → LeadIs rs start (offs rs (bs.take n)) (roomE rs start (bs.take n)) := by
  intro n
  induction n with
  | zero => intro _; exact .inl ⟨rfl, rfl⟩
  | succ n ih =>
    intro hn
    have hx : bs.take (n + 1) = bs.take n ++ [bs[n]] := by rw [List.take_succ_eq_append_getElem]
    have hr : roomE rs start (bs.take (n + 1)) = roomS rs start (roomE rs start (bs.take n)) bs[n] := by rw [hx]; unfold roomE; rw [List.foldl_append]; rfl
    rw [hr, hx, offs_snoc, roomS]
    have hi := ih (by omega)
    by_cases h : 0 < (offer1 rs bs[n]).most
    · rw [if_pos h, if_pos h]
      have hm : ∀ q ∈ offs rs (bs.take n), 0 ≤ q.who ∧ q.who ≤ 99 := fun q hq => offs_who (fun b hb' => hb b (List.mem_of_mem_take hb')) hq
      exact lead_step hi (by omega) (hb _ (List.getElem_mem _)).1 (fun q hq => offs_pos hq) (fun q hq => (hm q hq).1)
    · rw [if_neg h, if_neg h]; exact hi
theorem room_end {rs : List Int} {start : Int} (bs : List BidV) (hb : ∀ b ∈ bs, 0 ≤ b.who ∧ b.who ≤ 99) : LeadIs rs start (offs rs bs) (roomE rs start bs) := by
  have := room_is (rs := rs) (start := start) bs hb bs.length (Nat.le_refl _)
  rwa [List.take_length] at this
theorem roomG_len (rs : List Int) (start : Int) : ∀ (bs : List BidV) (x : LeadV), (roomG rs start x bs).length = bs.length
  | [], _ => rfl
  | b :: bs, x => by rw [roomG, List.length_cons, roomG_len rs start bs, List.length_cons]
theorem roomG_get (rs : List Int) (start : Int) : ∀ (bs : List BidV) (x : LeadV) (k : Nat), k < bs.length → (roomG rs start x bs)[k]? = some ((bs.take (k + 1)).foldl (roomS rs start) x)
  | [], _, _, h => by simp at h
  | b :: bs, x, 0, _ => rfl
  | b :: bs, x, k + 1, h => by
    rw [roomG, List.getElem?_cons_succ, roomG_get rs start bs _ k (by simpa using h)]; rfl
/-- the lead does not depend on the order -/
theorem lead_perm {rs : List Int} {start : Int} {bs cs : List BidV} (h : bs.Perm cs) (hb : ∀ b ∈ bs, 0 ≤ b.who ∧ b.who ≤ 99) : roomE rs start bs = roomE rs start cs := by
  have h1 := room_end (rs := rs) (start := start) bs hb
  have h2 := room_end (rs := rs) (start := start) cs (fun b hb' => hb b (h.mem_iff.2 hb'))
  have hp := offs_perm (rs := rs) h
  rcases h1 with ⟨e, ex⟩ | ⟨W, hW, a1, a2, a3, a4, a0, a5, a6⟩
  · rcases h2 with ⟨e', ex'⟩ | ⟨V, hV, b1, b2, b3, b4, b0, b5, b6⟩
    · rw [ex, ex']
    · rw [e] at hp; rw [List.nil_perm.1 hp] at hV; cases hV.mem
  · rcases h2 with ⟨e', ex'⟩ | ⟨V, hV, b1, b2, b3, b4, b0, b5, b6⟩
    · rw [e'] at hp; rw [List.perm_nil.1 hp] at hW; cases hW.mem
    · have hv := (hW.perm hp).uniq hV
      subst hv
      have hs := (a4.perm hp).uniq (fun o ho => offs_pos ho) b4
      have e : ∀ x y : LeadV, x.who = y.who → x.limit = y.limit → x.way = y.way → x.second = y.second → x.price = y.price → x = y := by
        intro x y; cases x; cases y; simp; intros; simp_all
      exact e _ _ (by rw [a1, b1]) (by rw [a2, b2]) (by rw [a3, b3]) hs (by rw [a6, b6, a2, b2, hs])
/-- who leads at the end gets the lot -/
theorem knock_lead {rs : List Int} {start least : Int} (bs : List BidV) (hb : ∀ b ∈ bs, 0 ≤ b.who ∧ b.who ≤ 99) : knockF rs start least (offs rs bs) = (let x := roomE rs start bs; if x.who = -1 ∨ least = 0 ∨ x.limit < least then ⟨-1, 0⟩ else ⟨x.who, max least x.price⟩) := by
  rcases room_end (rs := rs) (start := start) bs hb with ⟨e, ex⟩ | ⟨W, hW, a1, a2, a3, a4, a0, a5, a6⟩
  · rw [e, ex]; simp [knockF, winO, lead0]
  · rw [knock_eq hW a4 (fun o ho => offs_pos ho)]
    have := (offs_who hb hW.mem).1
    have hne : ¬ W.who = -1 := by omega
    simp only [a1, a2, a6, hne, false_or]
end Am
namespace Am
open Go.Sx (getL putL getL_put)

/-! the reference -/
def rngO (i : Int) (rs : List Int) : List BidV → Int → Int
  | [], r => r
  | b :: l, r => rngO i rs l (if b.who = i then max r (rungF b.most rs 0) else r)
def wayO (i : Int) (rs : List Int) (R : Int) : List BidV → Int → Int
  | [], w => w
  | b :: l, w => wayO i rs R l (if b.who = i ∧ rungF b.most rs 0 = R then min w b.way else w)
theorem rngO_drop (i : Int) (rs : List Int) (bs : List BidV) (k : Nat) (b : BidV) (r : Int) (h : bs[k]? = some b) : rngO i rs (bs.drop k) r = rngO i rs (bs.drop (k + 1)) (if b.who = i then max r (rungF b.most rs 0) else r) := by
  obtain ⟨h1, h2⟩ := List.getElem?_eq_some_iff.1 h
  rw [List.drop_eq_getElem_cons h1, h2, rngO]
theorem wayO_drop (i : Int) (rs : List Int) (R : Int) (bs : List BidV) (k : Nat) (b : BidV) (w : Int) (h : bs[k]? = some b) : wayO i rs R (bs.drop k) w = wayO i rs R (bs.drop (k + 1)) (if b.who = i ∧ rungF b.most rs 0 = R then min w b.way else w) := by
  obtain ⟨h1, h2⟩ := List.getElem?_eq_some_iff.1 h
  rw [List.drop_eq_getElem_cons h1, h2, wayO]
theorem rngO_spec (i : Int) (rs : List Int) : ∀ (bs : List BidV) (r : Int), r ≤ rngO i rs bs r ∧ (∀ b ∈ bs, b.who = i → rungF b.most rs 0 ≤ rngO i rs bs r) ∧ (rngO i rs bs r = r ∨ ∃ b ∈ bs, b.who = i ∧ rungF b.most rs 0 = rngO i rs bs r)
  | [], r => ⟨Int.le_refl _, fun _ h => (by cases h), .inl rfl⟩
  | b :: l, r => by
    rw [rngO]
    by_cases hb : b.who = i
    · rw [if_pos hb]
      obtain ⟨h1, h2, h3⟩ := rngO_spec i rs l (max r (rungF b.most rs 0))
      refine ⟨by omega, fun q hq hw => ?_, ?_⟩
      · rcases List.mem_cons.1 hq with e | e
        · rw [e]; omega
        · exact h2 q e hw
      · rcases h3 with e | ⟨q, hq, x⟩
        · by_cases hm : r ≤ rungF b.most rs 0
          · exact .inr ⟨b, List.mem_cons_self .., hb, by omega⟩
          · exact .inl (by omega)
        · exact .inr ⟨q, List.mem_cons_of_mem _ hq, x⟩
    · rw [if_neg hb]
      obtain ⟨h1, h2, h3⟩ := rngO_spec i rs l r
      refine ⟨h1, fun q hq hw => ?_, h3.imp id fun ⟨q, hq, x⟩ => ⟨q, List.mem_cons_of_mem _ hq, x⟩⟩
      rcases List.mem_cons.1 hq with e | e
      · exact absurd (e ▸ hw) hb
      · exact h2 q e hw
theorem wayO_spec (i : Int) (rs : List Int) (R : Int) : ∀ (bs : List BidV) (w : Int), wayO i rs R bs w ≤ w ∧ (∀ b ∈ bs, b.who = i → rungF b.most rs 0 = R → wayO i rs R bs w ≤ b.way) ∧ (wayO i rs R bs w = w ∨ ∃ b ∈ bs, b.who = i ∧ rungF b.most rs 0 = R ∧ b.way = wayO i rs R bs w)
  | [], w => ⟨Int.le_refl _, fun _ h => (by cases h), .inl rfl⟩
  | b :: l, w => by
    rw [wayO]
    by_cases hb : b.who = i ∧ rungF b.most rs 0 = R
    · rw [if_pos hb]
      obtain ⟨h1, h2, h3⟩ := wayO_spec i rs R l (min w b.way)
      refine ⟨by omega, fun q hq hw hr => ?_, ?_⟩
      · rcases List.mem_cons.1 hq with e | e
        · rw [e]; omega
        · exact h2 q e hw hr
      · rcases h3 with e | ⟨q, hq, x⟩
        · by_cases hm : b.way ≤ w
          · exact .inr ⟨b, List.mem_cons_self .., hb.1, hb.2, by omega⟩
          · exact .inl (by omega)
        · exact .inr ⟨q, List.mem_cons_of_mem _ hq, x⟩
    · rw [if_neg hb]
      obtain ⟨h1, h2, h3⟩ := wayO_spec i rs R l w
      refine ⟨h1, fun q hq hw hr => ?_, h3.imp id fun ⟨q, hq, x⟩ => ⟨q, List.mem_cons_of_mem _ hq, x⟩⟩
      rcases List.mem_cons.1 hq with e | e
      · exact absurd (e ▸ ⟨hw, hr⟩) hb
      · exact h2 q e hw hr
def refOff (rs : List Int) (bs : List BidV) (i : Int) : BidV := ⟨i, wayO i rs (rngO i rs bs 0) bs 9, rngO i rs bs 0⟩
theorem mem_offs {rs : List Int} {bs : List BidV} {o : BidV} : o ∈ offs rs bs ↔ 0 < o.most ∧ ∃ b ∈ bs, offer1 rs b = o := by
  unfold offs
  rw [List.mem_filter, List.mem_map, decide_eq_true_iff]
  exact ⟨fun ⟨a, b⟩ => ⟨b, a⟩, fun ⟨a, b⟩ => ⟨b, a⟩⟩
theorem refOff_spec (rs : List Int) (bs : List BidV) (i : Int) (hw : ∀ b ∈ bs, b.way ≤ 3) : ((refOff rs bs i).most = 0 ∧ ∀ o ∈ offs rs bs, o.who ≠ i) ∨ (0 < (refOff rs bs i).most ∧ refOff rs bs i ∈ offs rs bs ∧ ∀ o ∈ offs rs bs, o.who = i → o = refOff rs bs i ∨ beats (refOff rs bs i) o = true) := by
  obtain ⟨h1, h2, h3⟩ := rngO_spec i rs bs 0
  obtain ⟨k1, k2, k3⟩ := wayO_spec i rs (rngO i rs bs 0) bs 9
  by_cases h0 : rngO i rs bs 0 = 0
  · refine .inl ⟨h0, fun o ho hwo => ?_⟩
    obtain ⟨hp, b, hb, e⟩ := mem_offs.1 ho
    subst e
    have h4 := h2 b hb hwo
    unfold offer1 at hp
    simp only at hp
    omega
  · right
    refine ⟨by unfold refOff; simp only; omega, ?_, ?_⟩
    · rcases h3 with e | ⟨b, hb, hbw, hbr⟩
      · exact absurd e h0
      · have h5 := k2 b hb hbw hbr
        have h6 := hw b hb
        rcases k3 with e | ⟨c, hc, hcw, hcr, hcy⟩
        · omega
        · refine mem_offs.2 ⟨by unfold refOff; simp only; omega, c, hc, bid_ext hcw hcy hcr⟩
    · intro o ho hwo
      obtain ⟨hp, b, hb, e⟩ := mem_offs.1 ho
      subst e
      have h4 := h2 b hb hwo
      rw [beats_iff]
      by_cases he : rungF b.most rs 0 = rngO i rs bs 0
      · have h5 := k2 b hb hwo he
        by_cases hy : b.way = wayO i rs (rngO i rs bs 0) bs 9
        · exact .inl (bid_ext hwo hy he)
        · right; right
          exact ⟨he.symm, .inl (by unfold refOff offer1; simp only; omega)⟩
      · right; left
        unfold refOff offer1; simp only; omega
def bid0 : BidV := ⟨0, 0, 0⟩
/-- the reference's loop over the bidders -/
def winR (rs : List Int) (bs : List BidV) : Nat → BidV × Int
  | 0 => (bid0, 0)
  | i + 1 => if (refOff rs bs i).most = 0 then winR rs bs i else if beats (refOff rs bs i) (winR rs bs i).1 then (refOff rs bs i, max (winR rs bs i).2 (winR rs bs i).1.most) else ((winR rs bs i).1, max (winR rs bs i).2 (refOff rs bs i).most)
theorem winR_spec (rs : List Int) (bs : List BidV) (hw : ∀ b ∈ bs, b.way ≤ 3) (h0 : ∀ b ∈ bs, 0 ≤ b.who) : ∀ n : Nat, ((∀ o ∈ offs rs bs, (n : Int) ≤ o.who) ∧ winR rs bs n = (bid0, 0)) ∨
    (((winR rs bs n).1 ∈ offs rs bs ∧ (winR rs bs n).1.who < n ∧ ∀ o ∈ offs rs bs, o.who < n → o = (winR rs bs n).1 ∨ beats (winR rs bs n).1 o = true) ∧
     (0 ≤ (winR rs bs n).2 ∧ (winR rs bs n).2 ≤ (winR rs bs n).1.most ∧ (∀ o ∈ offs rs bs, o.who < n → o.who ≠ (winR rs bs n).1.who → o.most ≤ (winR rs bs n).2) ∧ ((winR rs bs n).2 = 0 ∨ ∃ o ∈ offs rs bs, o.who ≠ (winR rs bs n).1.who ∧ o.most = (winR rs bs n).2)))
  | 0 => .inl ⟨fun o ho => by
      obtain ⟨_, b, hb, e⟩ := mem_offs.1 ho
      subst e; exact h0 b hb, rfl⟩
  | n + 1 => by
    have ih := winR_spec rs bs hw h0 n
    rw [winR]
    rcases refOff_spec rs bs n hw with ⟨e0, hno⟩ | ⟨hpos, hmem, hbest⟩
    · rw [if_pos e0]
      have hlt : ∀ o ∈ offs rs bs, o.who < ((n + 1 : Nat) : Int) → o.who < n := fun o ho h => by have := hno o ho; omega
      rcases ih with ⟨a, b⟩ | ⟨⟨a1, a2, a3⟩, b1, b2, b3, b4⟩
      · exact .inl ⟨fun o ho => by have := a o ho; have := hno o ho; omega, b⟩
      · exact .inr ⟨⟨a1, by omega, fun o ho h => a3 o ho (hlt o ho h)⟩, b1, b2, fun o ho h => b3 o ho (hlt o ho h), b4⟩
    · rw [if_neg (by omega)]
      have hwn : (refOff rs bs n).who = n := rfl
      have hmn : ∀ o ∈ offs rs bs, o.who = n → o.most ≤ (refOff rs bs n).most := fun o ho h => by
        rcases hbest o ho h with e | e
        · rw [e]; exact Int.le_refl _
        · rw [beats_iff] at e; omega
      rcases ih with ⟨a, b⟩ | ⟨⟨a1, a2, a3⟩, b1, b2, b3, b4⟩
      · rw [b, if_pos (by rw [beats_iff]; left; exact hpos)]
        right
        refine ⟨⟨hmem, by rw [hwn]; omega, fun o ho h => hbest o ho (by have := a o ho; omega)⟩, ?_, ?_, ?_, ?_⟩
        · simp [bid0]
        · simp [bid0]; omega
        · intro o ho h hne; simp only at hne; rw [hwn] at hne; have := a o ho; omega
        · left; simp [bid0]
      · generalize hV : winR rs bs n = V at *
        obtain ⟨W, s⟩ := V
        simp only at a1 a2 a3 b1 b2 b3 b4 ⊢
        have hall : ∀ o ∈ offs rs bs, o.who < ((n + 1 : Nat) : Int) → o.who < n ∨ o.who = n := fun o ho h => by omega
        have hmW : ∀ o ∈ offs rs bs, o.who < n → o.most ≤ W.most := fun o ho h => by
          rcases a3 o ho h with e | e
          · rw [e]; exact Int.le_refl _
          · rw [beats_iff] at e; omega
        by_cases hb : beats (refOff rs bs n) W = true
        · rw [if_pos hb]
          right
          have hb' := (beats_iff _ _).1 hb
          refine ⟨⟨hmem, by simp only; rw [hwn]; omega, fun o ho h => ?_⟩, by simp only; omega, by simp only; omega, fun o ho h hne => ?_, ?_⟩
          · rcases hall o ho h with h | h
            · rcases a3 o ho h with e | e
              · exact .inr (e ▸ hb)
              · right; simp only; rw [beats_iff] at e ⊢; omega
            · exact hbest o ho h
          · simp only at hne ⊢; rw [hwn] at hne
            rcases hall o ho h with h | h
            · have := hmW o ho h; omega
            · exact absurd h hne
          · simp only
            by_cases hm : s ≤ W.most
            · exact .inr ⟨W, a1, by rw [hwn]; omega, by omega⟩
            · omega
        · rw [if_neg hb]
          right
          rw [Bool.not_eq_true, beats_no] at hb
          have hWr : beats W (refOff rs bs n) = true := by
            rw [beats_iff]; rw [hwn] at hb ⊢; omega
          refine ⟨⟨a1, by simp only; omega, fun o ho h => ?_⟩, by simp only; omega, by simp only; omega, fun o ho h hne => ?_, ?_⟩
          · rcases hall o ho h with h | h
            · exact a3 o ho h
            · right
              rcases hbest o ho h with e | e
              · rw [e]; exact hWr
              · simp only; rw [beats_iff] at *; omega
          · simp only at hne ⊢
            rcases hall o ho h with h | h
            · have := b3 o ho h hne; omega
            · have := hmn o ho h; omega
          · simp only
            by_cases hm : s ≤ (refOff rs bs n).most
            · exact .inr ⟨refOff rs bs n, hmem, by rw [hwn]; omega, by omega⟩
            · rcases b4 with e | ⟨o, ho, x, y⟩
              · omega
              · exact .inr ⟨o, ho, x, by omega⟩
def priceR (lad : List RiseV) (start win second : Int) : Int := if second = win then win else if second = 0 then start else nx lad second
def resR (lad : List RiseV) (r : Int) : Nat → Int → Int
  | 0, x => x
  | k + 1, x => if x < r then resR lad r k (nx lad x) else x
theorem resR_beh {lad : List RiseV} (h : LadOk lad) (r : Int) (hr : r ≤ 100000) : ∀ (k : Nat) (x : Int), 1 ≤ x → 100001 ≤ x + k → (if 100000 < resR lad r k x then 0 else resR lad r k x) = behF (r - 1) (rgs lad k x)
  | 0, x, _, hk => by rw [resR, rgs, behF, if_pos (by omega)]
  | k + 1, x, hx, hk => by
    have hb := byR_bd h (p := x) (by omega)
    rw [resR, rgs_s]
    by_cases h1 : x < r
    · rw [if_pos h1, if_pos (show x ≤ 100000 by omega), behF, if_neg (show ¬ r - 1 < x by omega)]
      exact resR_beh h r hr k _ (by unfold nx; omega) (by unfold nx; omega)
    · rw [if_neg h1]
      by_cases h2 : x ≤ 100000
      · rw [if_pos h2, if_neg (show ¬ 100000 < x by omega), behF, if_pos (show r - 1 < x by omega)]
      · rw [if_neg h2, if_pos (show 100000 < x by omega), behF]
theorem asc_least {rs : List Int} (h : Asc rs) {n m : Int} (hnm : n ≤ m) (hm : behF m rs ≠ 0) : behF n rs ≠ 0 ∧ behF n rs ≤ behF m rs := by
  rcases behF_spec (n := m) rs h with ⟨e, _⟩ | ⟨h1, h2, h3⟩
  · exact absurd e hm
  · rcases behF_spec (n := n) rs h with ⟨e, k⟩ | ⟨k1, k2, k3⟩
    · have := k _ h1; omega
    · exact ⟨by have := (h.pos _ k1).1; omega, k3 _ h1 (by omega)⟩
/-- the prices are one -/
theorem price_eq {lad : List RiseV} (h : LadOk lad) {start win second : Int} (hs : 1 ≤ start) (hw : win ∈ rgL lad start) (hsec : second = 0 ∨ second ∈ rgL lad start) (hle : second ≤ win) : priceR lad start win second = priceF (rgL lad start) start win second := by
  unfold priceR priceF
  by_cases h1 : second = win
  · rw [if_pos h1, if_pos h1]
  · rw [if_neg h1, if_neg h1]
    by_cases h2 : second = 0
    · rw [if_pos h2, if_pos h2]
    · rw [if_neg h2, if_neg h2]
      have hm := hsec.resolve_left h2
      rw [behL_next h hs hm]
      rcases behF_spec (n := second) _ (rgL_asc h hs) with ⟨_, k⟩ | ⟨k1, k2, _⟩
      · have := k win hw; omega
      · have hp := (rgL_asc h hs).pos _ k1
        rw [behL_next h hs hm] at hp
        by_cases hn : nx lad second ≤ 100000
        · rw [if_pos hn]
        · rw [if_neg hn] at hp; omega
def knockR (lad : List RiseV) (start least : Int) (s : BidV × Int) : KnockV := if s.1.most = 0 ∨ least = 0 ∨ s.1.most < least then ⟨-1, 0⟩ else ⟨s.1.who, max least (priceR lad start s.1.most s.2)⟩
theorem sell_ref {lad : List RiseV} (h : LadOk lad) {start least : Int} (hs : 1 ≤ start) {bs : List BidV} (hb : ∀ b ∈ bs, (0 ≤ b.who ∧ b.who ≤ 99) ∧ b.way ≤ 3) : knockR lad start least (winR (rgL lad start) bs 100) = knockF (rgL lad start) start least (offs (rgL lad start) bs) := by
  have hlt : ∀ o ∈ offs (rgL lad start) bs, o.who < ((100 : Nat) : Int) := fun o ho => by have := (offs_who (fun b hb' => (hb b hb').1) ho).2; omega
  rcases winR_spec (rgL lad start) bs (fun b hb' => (hb b hb').2) (fun b hb' => (hb b hb').1.1) 100 with ⟨h1, e⟩ | ⟨⟨a1, a2, a3⟩, b1, b2, b3, b4⟩
  · have e0 : offs (rgL lad start) bs = [] := by
      refine List.eq_nil_iff_forall_not_mem.2 fun o ho => ?_
      have := h1 o ho; have := hlt o ho; omega
    rw [e, e0]
    simp [knockR, bid0, knockF, winO]
  · have hw : IsWin (offs (rgL lad start) bs) (winR (rgL lad start) bs 100).1 := ⟨a1, fun o ho => a3 o ho (hlt o ho)⟩
    have hk : IsSec (offs (rgL lad start) bs) (winR (rgL lad start) bs 100).1.who (winR (rgL lad start) bs 100).2 := ⟨fun o ho hne => b3 o ho (hlt o ho) hne, b4⟩
    rw [knock_eq hw hk (fun o ho => offs_pos ho), knockR]
    have hp := offs_pos a1
    have hne : ¬ (winR (rgL lad start) bs 100).1.most = 0 := by omega
    have hpr := price_eq h hs (offs_rung (rgL_asc h hs) a1) (second := (winR (rgL lad start) bs 100).2) (b4.imp id fun ⟨o, ho, _, e⟩ => e ▸ offs_rung (rgL_asc h hs) ho) b2
    simp only [hne, false_or, hpr]
/-- the room's step of the reference -/
def stepR (lad : List RiseV) (start : Int) (x : LeadV) (o : BidV) : LeadV :=
  let y : LeadV := if x.who = -1 then ⟨o.who, o.most, o.way, x.second, x.price⟩
    else if x.who = o.who then (if x.limit < o.most ∨ o.most = x.limit ∧ o.way < x.way then ⟨x.who, o.most, o.way, x.second, x.price⟩ else x)
    else if beats o ⟨x.who, x.way, x.limit⟩ then ⟨o.who, o.most, o.way, x.limit, x.price⟩
    else ⟨x.who, x.limit, x.way, max x.second o.most, x.price⟩
  ⟨y.who, y.limit, y.way, y.second, priceR lad start y.limit y.second⟩
theorem step_eq {lad : List RiseV} (h : LadOk lad) {start : Int} (hs : 1 ≤ start) {os : List BidV} {x : LeadV} {o : BidV} (hx : LeadIs (rgL lad start) start os x) (ho : o.most ∈ rgL lad start) (hw : 0 ≤ o.who) (hr : ∀ q ∈ os, q.most ∈ rgL lad start) (hq : ∀ q ∈ os, 0 ≤ q.who) : stepR lad start x o = stepP (rgL lad start) start x o := by
  have ha := rgL_asc h hs
  have hos := ha.pos _ ho
  -- what is changed ahead of the price is one
  have hn := lead_step hx (by omega : 1 ≤ o.most) hw (fun q hq' => (ha.pos _ (hr q hq')).1) hq
  rcases hn with ⟨e, _⟩ | ⟨W, hW, n1, n2, n3, n4, n0, n5, n6⟩
  · simp at e
  have hWr : W.most ∈ rgL lad start := by
    rcases List.mem_append.1 hW.mem with e | e
    · exact hr _ e
    · simp at e; rw [e]; exact ho
  have hsr : (stepP (rgL lad start) start x o).second = 0 ∨ (stepP (rgL lad start) start x o).second ∈ rgL lad start := n4.at_.imp id fun ⟨q, hq', _, e⟩ => by
    rw [← e]
    rcases List.mem_append.1 hq' with e' | e'
    · exact hr _ e'
    · simp at e'; rw [e']; exact ho
  have hpe := price_eq h hs (n2 ▸ hWr) hsr n5
  have key : (stepR lad start x o).who = (stepP (rgL lad start) start x o).who ∧ (stepR lad start x o).limit = (stepP (rgL lad start) start x o).limit ∧ (stepR lad start x o).way = (stepP (rgL lad start) start x o).way ∧ (stepR lad start x o).second = (stepP (rgL lad start) start x o).second := by
    unfold stepR stepP
    rcases hx with ⟨_, ex⟩ | ⟨V, hV, m1, m2, m3, m4, m0, m5, m6⟩
    · subst ex
      unfold lead0
      rw [if_pos rfl, if_neg (by simp only; omega), if_pos (.inl rfl)]
      exact ⟨rfl, rfl, rfl, rfl⟩
    · have hv := hq V hV.mem
      rw [if_neg (by omega)]
      by_cases hc : x.who = o.who
      · rw [if_pos hc, if_pos hc]
        by_cases hb : x.limit < o.most ∨ o.most = x.limit ∧ o.way < x.way
        · rw [if_pos hb, if_pos (by rw [beats_iff]; simp only; omega)]; exact ⟨rfl, rfl, rfl, rfl⟩
        · rw [if_neg hb, if_neg (by rw [Bool.not_eq_true, beats_no]; simp only; omega)]; exact ⟨rfl, rfl, rfl, rfl⟩
      · rw [if_neg hc, if_neg hc]
        by_cases hb : beats o ⟨x.who, x.way, x.limit⟩ = true
        · rw [if_pos hb, if_pos (.inr hb)]; exact ⟨rfl, rfl, rfl, rfl⟩
        · rw [if_neg hb, if_neg (by rintro (h | h); omega; exact hb h)]; exact ⟨rfl, rfl, rfl, rfl⟩
  obtain ⟨k1, k2, k3, k4⟩ := key
  have hR : (stepR lad start x o).price = priceR lad start (stepR lad start x o).limit (stepR lad start x o).second := rfl
  have e : ∀ x y : LeadV, x.who = y.who → x.limit = y.limit → x.way = y.way → x.second = y.second → x.price = y.price → x = y := by
    intro x y; cases x; cases y; simp; intros; simp_all
  exact e _ _ k1 k2 k3 k4 (by rw [hR, k2, k4, hpe]; exact n6.symm)
end Am
namespace Am
open Go.Sx (getL putL getL_put)

/-! maps as lists of entries -/
theorem getL_mem {l : List (Int × BidV)} : ∀ {k : Int} {v : BidV}, getL l k = some v → (k, v) ∈ l := by
  induction l with
  | nil => intro k v h; cases h
  | cons p l ih =>
    intro k v h
    rw [getL] at h
    split at h
    · rename_i hk
      cases h
      rw [← hk]; exact List.mem_cons_self ..
    · exact List.mem_cons_of_mem _ (ih h)
theorem getL_no {l : List (Int × BidV)} : ∀ {k : Int}, getL l k = none → ∀ p ∈ l, p.1 ≠ k := by
  induction l with
  | nil => intro k h p hp; cases hp
  | cons q l ih =>
    intro k h p hp
    rw [getL] at h
    split at h
    · cases h
    · rename_i hk
      rcases List.mem_cons.1 hp with e | e
      · rw [e]; exact hk
      · exact ih h p e
theorem putL_mem : ∀ {l : List (Int × BidV)} {k : Int} {v : BidV} {p : Int × BidV}, p ∈ putL l k v → p = (k, v) ∨ p ∈ l
  | [], k, v, p, h => by simpa [putL] using h
  | q :: l, k, v, p, h => by
    rw [putL] at h
    split at h
    · rcases List.mem_cons.1 h with e | e
      · exact .inl e
      · exact .inr (List.mem_cons_of_mem _ e)
    · rcases List.mem_cons.1 h with e | e
      · exact .inr (e ▸ List.mem_cons_self ..)
      · exact (putL_mem e).imp id (List.mem_cons_of_mem _)
theorem putL_keys : ∀ (l : List (Int × BidV)) (k : Int) (v : BidV), (putL l k v).map (·.1) = if k ∈ l.map (·.1) then l.map (·.1) else l.map (·.1) ++ [k]
  | [], k, v => by simp [putL]
  | q :: l, k, v => by
    rw [putL]
    by_cases h : q.1 = k
    · rw [if_pos h]; simp [h]
    · rw [if_neg h, List.map_cons, putL_keys l k v]
      by_cases hk : k ∈ l.map (·.1)
      · rw [if_pos hk, if_pos (by rw [List.map_cons]; exact List.mem_cons_of_mem _ hk), List.map_cons]
      · rw [if_neg hk, if_neg (by rw [List.map_cons]; intro e; rcases List.mem_cons.1 e with e | e; exact h e.symm; exact hk e), List.map_cons]; rfl
/-- what the map holds -/
structure OwnIs (os : List BidV) (l : List (Int × BidV)) : Prop where
  val : ∀ p ∈ l, p.2.who = p.1 ∧ p.2 ∈ os ∧ ∀ o ∈ os, o.who = p.1 → o = p.2 ∨ beats p.2 o = true
  all : ∀ o ∈ os, ∃ p ∈ l, p.1 = o.who
  nd : (l.map (·.1)).Nodup
def ownC (l : List (Int × BidV)) (o : BidV) : Bool := match getL l o.who with | none => true | some v => beats o v
def ownS (l : List (Int × BidV)) (o : BidV) : List (Int × BidV) := if ownC l o = true then putL l o.who o else l
theorem getL_of {l : List (Int × BidV)} (hn : (l.map (·.1)).Nodup) {p : Int × BidV} (hp : p ∈ l) : getL l p.1 = some p.2 := by
  induction l with
  | nil => cases hp
  | cons q l ih =>
    rw [List.map_cons, List.nodup_cons] at hn
    rw [getL]
    rcases List.mem_cons.1 hp with e | e
    · rw [if_pos (by rw [e]), e]
    · rw [if_neg (show ¬ q.1 = p.1 from fun h => hn.1 (by rw [h]; exact List.mem_map.2 ⟨p, e, rfl⟩)), ih hn.2 e]
theorem own_step {os : List BidV} {l : List (Int × BidV)} (h : OwnIs os l) (o : BidV) : OwnIs (os ++ [o]) (ownS l o) := by
  have htr : ∀ a b c : BidV, beats a b = true → beats b c = true → beats a c = true := fun a b c h1 h2 => by rw [beats_iff] at *; omega
  unfold ownS ownC
  cases hg : getL l o.who with
  | none =>
    have hno := getL_no hg
    rw [if_pos rfl]
    have hnm : o.who ∉ l.map (·.1) := fun e => by obtain ⟨p, hp, e⟩ := List.mem_map.1 e; exact hno p hp e
    have hk := putL_keys l o.who o
    rw [if_neg hnm] at hk
    refine ⟨fun p hp => ?_, fun q hq => ?_, ?_⟩
    · rcases putL_mem hp with e | e
      · rw [e]
        refine ⟨rfl, by simp, fun q hq hw => ?_⟩
        rcases List.mem_append.1 hq with e' | e'
        · obtain ⟨r, hr, hrw⟩ := h.all q e'
          exact absurd (hrw.trans hw) (hno r hr)
        · exact .inl (by simpa using e')
      · obtain ⟨a, b, c⟩ := h.val p e
        refine ⟨a, List.mem_append_left _ b, fun q hq hw => ?_⟩
        rcases List.mem_append.1 hq with e' | e'
        · exact c q e' hw
        · simp at e'; rw [e'] at hw; exact absurd hw.symm (hno p e)
    · rcases List.mem_append.1 hq with e | e
      · obtain ⟨r, hr, hrw⟩ := h.all q e
        have : q.who ∈ (putL l o.who o).map (·.1) := by rw [hk]; exact List.mem_append_left _ (List.mem_map.2 ⟨r, hr, hrw⟩)
        obtain ⟨p, hp, e⟩ := List.mem_map.1 this
        exact ⟨p, hp, e⟩
      · simp at e
        have : q.who ∈ (putL l o.who o).map (·.1) := by rw [hk, e]; simp
        obtain ⟨p, hp, e⟩ := List.mem_map.1 this
        exact ⟨p, hp, e⟩
    · rw [hk]
      exact List.nodup_append.2 ⟨h.nd, by simp, fun a ha b hb => by simp at hb; rw [hb]; exact fun e => hnm (e ▸ ha)⟩
  | some v =>
    have hm := getL_mem hg
    obtain ⟨v1, v2, v3⟩ := h.val _ hm
    have hmk : o.who ∈ l.map (·.1) := List.mem_map.2 ⟨_, hm, rfl⟩
    by_cases hb : beats o v = true
    · simp only [hb, if_true]
      have hk := putL_keys l o.who o
      rw [if_pos hmk] at hk
      have hin : ∀ p ∈ putL l o.who o, p = (o.who, o) ∨ (p ∈ l ∧ p.1 ≠ o.who) := by
        intro p hp
        by_cases hpo : p.1 = o.who
        · left
          have hgp := getL_of (by rw [hk]; exact h.nd) hp
          rw [getL_put, if_pos hpo.symm] at hgp
          cases hgp
          exact Prod.ext hpo (by simp_all)
        · rcases putL_mem hp with e | e
          · exact .inl e
          · exact .inr ⟨e, hpo⟩
      refine ⟨fun p hp => ?_, fun q hq => ?_, by rw [hk]; exact h.nd⟩
      · rcases hin p hp with e | ⟨e, hne⟩
        · rw [e]
          refine ⟨rfl, by simp, fun q hq hw => ?_⟩
          rcases List.mem_append.1 hq with e' | e'
          · rcases v3 q e' hw with e2 | e2
            · exact .inr (e2 ▸ hb)
            · exact .inr (htr _ _ _ hb e2)
          · exact .inl (by simpa using e')
        · obtain ⟨a, b, c⟩ := h.val p e
          refine ⟨a, List.mem_append_left _ b, fun q hq hw => ?_⟩
          rcases List.mem_append.1 hq with e' | e'
          · exact c q e' hw
          · simp at e'; rw [e'] at hw; exact absurd hw.symm hne
      · have : q.who ∈ (putL l o.who o).map (·.1) := by
          rw [hk]
          rcases List.mem_append.1 hq with e | e
          · obtain ⟨r, hr, hrw⟩ := h.all q e
            exact List.mem_map.2 ⟨r, hr, hrw⟩
          · simp at e; rw [e]; exact hmk
        obtain ⟨p, hp, e⟩ := List.mem_map.1 this
        exact ⟨p, hp, e⟩
    · simp only [hb, Bool.false_eq_true, if_false]
      refine ⟨fun p hp => ?_, fun q hq => ?_, h.nd⟩
      · obtain ⟨a, b, c⟩ := h.val p hp
        refine ⟨a, List.mem_append_left _ b, fun q hq hw => ?_⟩
        rcases List.mem_append.1 hq with e' | e'
        · exact c q e' hw
        · simp at e'
          rw [e'] at hw ⊢
          have hpv : p.2 = v := by
            have := getL_of h.nd hp
            rw [← hw, hg] at this
            cases this; rfl
          rw [hpv]
          rw [Bool.not_eq_true, beats_no] at hb
          simp only at v1
          by_cases he : o = v
          · exact .inl he
          · right
            rw [beats_iff]
            by_cases h3 : o.way = v.way ∧ o.most = v.most
            · exact absurd (bid_ext v1.symm h3.1 h3.2) he
            · omega
      · rcases List.mem_append.1 hq with e | e
        · exact h.all q e
        · simp at e; rw [e]; exact ⟨_, hm, rfl⟩
def ownF (rs : List Int) : List BidV → List (Int × BidV) → List (Int × BidV)
  | [], l => l
  | b :: bs, l => ownF rs bs (if 0 < (offer1 rs b).most then ownS l (offer1 rs b) else l)
theorem ownF_drop (rs : List Int) (bs : List BidV) (k : Nat) (b : BidV) (l : List (Int × BidV)) (h : bs[k]? = some b) : ownF rs (bs.drop k) l = ownF rs (bs.drop (k + 1)) (if 0 < (offer1 rs b).most then ownS l (offer1 rs b) else l) := by
  obtain ⟨h1, h2⟩ := List.getElem?_eq_some_iff.1 h
  rw [List.drop_eq_getElem_cons h1, h2, ownF]
theorem ownF_is (rs : List Int) : ∀ (bs as_ : List BidV) (l : List (Int × BidV)), OwnIs (offs rs as_) l → OwnIs (offs rs (as_ ++ bs)) (ownF rs bs l)
  | [], as_, l, h => by rw [List.append_nil]; exact h
  | b :: bs, as_, l, h => by
    rw [ownF, show as_ ++ b :: bs = (as_ ++ [b]) ++ bs by simp]
    refine ownF_is rs bs _ _ ?_
    rw [offs_snoc]
    by_cases hb : 0 < (offer1 rs b).most
    · rw [if_pos hb, if_pos hb]; exact own_step h _
    · rw [if_neg hb, if_neg hb]; exact h
theorem ownF_own (rs : List Int) (bs : List BidV) : OwnIs (offs rs bs) (ownF rs bs []) := by
  have := ownF_is rs bs [] [] ⟨fun _ h => (by cases h), fun o h => (by simp [offs] at h), by simp⟩
  simpa using this
def secT : List BidV → Int
  | [] => 0
  | p :: _ => p.most
/-- the program's sale, from the sorted offers -/
def sellP (rs : List Int) (start least : Int) (s : List BidV) : KnockV := match s with
  | [] => ⟨-1, 0⟩
  | o :: t => if least = 0 ∨ o.most < least then ⟨-1, 0⟩ else ⟨o.who, max least (priceF rs start o.most (secT t))⟩
theorem sell_eq {rs : List Int} {start least : Int} {os s : List BidV} {l : List (Int × BidV)} (h : OwnIs os l) (hp : s.Perm (l.map (·.2))) (hs : s.Pairwise (fun a b => beats b a = false)) (h1 : ∀ o ∈ os, 1 ≤ o.most) : sellP rs start least s = knockF rs start least os := by
  have hin : ∀ v ∈ s, v ∈ os := fun v hv => by
    obtain ⟨p, hp', e⟩ := List.mem_map.1 (hp.mem_iff.1 hv)
    rw [← e]; exact (h.val p hp').2.1
  have hof : ∀ o ∈ os, ∃ v ∈ s, v.who = o.who ∧ (o = v ∨ beats v o = true) := fun o ho => by
    obtain ⟨p, hp', e⟩ := h.all o ho
    obtain ⟨a, b, c⟩ := h.val p hp'
    exact ⟨p.2, hp.mem_iff.2 (List.mem_map.2 ⟨p, hp', rfl⟩), a.trans e, c o ho e.symm⟩
  have hnd : (s.map (·.who)).Nodup := by
    refine (hp.map _).nodup_iff.2 ?_
    rw [List.map_map, show l.map ((fun v : BidV => v.who) ∘ fun p : Int × BidV => p.2) = l.map (fun p : Int × BidV => p.1) from List.map_congr_left fun p hp' => (h.val p hp').1]
    exact h.nd
  have htr : ∀ a b c : BidV, a = b ∨ beats a b = true → (c = b ∨ beats b c = true) → (c = a ∨ beats a c = true) := fun a b c e1 e2 => by
    rcases e1 with e1 | e1
    · rw [e1]; exact e2
    · rcases e2 with e2 | e2
      · rw [e2]; exact .inr e1
      · right; rw [beats_iff] at *; omega
  match s, hin, hof, hnd, hs with
  | [], hin, hof, _, _ =>
    have : os = [] := List.eq_nil_iff_forall_not_mem.2 fun o ho => by obtain ⟨v, hv, _⟩ := hof o ho; cases hv
    rw [this]; rfl
  | o :: t, hin, hof, hnd, hs =>
    have hst := List.pairwise_cons.1 hs
    rw [List.map_cons, List.nodup_cons] at hnd
    have hne : ∀ v ∈ t, v.who ≠ o.who := fun v hv e => hnd.1 (e ▸ List.mem_map.2 ⟨v, hv, rfl⟩)
    have hbt : ∀ v ∈ t, beats o v = true := fun v hv => by
      have h2 := hst.1 v hv; have h3 := hne v hv
      rw [beats_no] at h2; rw [beats_iff]; omega
    have hw : IsWin os o := ⟨hin o (List.mem_cons_self ..), fun q hq => by
      obtain ⟨v, hv, _, e⟩ := hof q hq
      rcases List.mem_cons.1 hv with e' | e'
      · rw [e'] at e; exact e
      · exact htr o v q (.inr (hbt v e')) e⟩
    have hk : IsSec os o.who (secT t) := by
      cases t with
      | nil =>
        refine ⟨fun q hq hne' => ?_, .inl rfl⟩
        obtain ⟨v, hv, e1, _⟩ := hof q hq
        simp at hv
        rw [hv] at e1; exact absurd e1.symm hne'
      | cons p t =>
        refine ⟨fun q hq hne' => ?_, .inr ⟨p, hin p (by simp), hne p (List.mem_cons_self ..), rfl⟩⟩
        obtain ⟨v, hv, e1, e2⟩ := hof q hq
        have hvm : v.most ≤ p.most := by
          rcases List.mem_cons.1 hv with e' | e'
          · rw [e'] at e1; exact absurd e1.symm hne'
          · rcases List.mem_cons.1 e' with e' | e'
            · rw [e']; exact Int.le_refl _
            · have := (List.pairwise_cons.1 hst.2).1 v e'
              rw [beats_no] at this; omega
        show q.most ≤ p.most
        rcases e2 with e2 | e2
        · rw [e2]; exact hvm
        · rw [beats_iff] at e2; omega
    rw [knock_eq hw hk h1]; rfl
/-! what a sale obeys -/
theorem rungF_mono {rs : List Int} (h : Asc rs) {n m : Int} (hnm : n ≤ m) : rungF n rs 0 ≤ rungF m rs 0 := by
  rcases rungF_spec (n := n) rs 0 h with ⟨e, _⟩ | ⟨a, b, c⟩
  · rw [e]
    rcases rungF_spec (n := m) rs 0 h with ⟨e, _⟩ | ⟨a, _, _⟩
    · rw [e]; exact Int.le_refl _
    · have := (h.pos _ a).1; omega
  · rcases rungF_spec (n := m) rs 0 h with ⟨_, k⟩ | ⟨_, _, k⟩
    · have := k _ a; omega
    · exact k _ a (by omega)
theorem rungF_nn {rs : List Int} (h : Asc rs) (n : Int) : 0 ≤ rungF n rs 0 := by
  rcases rungF_spec (n := n) rs 0 h with ⟨e, _⟩ | ⟨a, _, _⟩
  · rw [e]; exact Int.le_refl _
  · have := (h.pos _ a).1; omega
def maxB (p : BidV → Bool) : List BidV → Int → Int
  | [], m => m
  | b :: l, m => maxB p l (if p b = true then max m b.most else m)
theorem maxB_drop (p : BidV → Bool) (bs : List BidV) (k : Nat) (b : BidV) (m : Int) (h : bs[k]? = some b) : maxB p (bs.drop k) m = maxB p (bs.drop (k + 1)) (if p b = true then max m b.most else m) := by
  obtain ⟨h1, h2⟩ := List.getElem?_eq_some_iff.1 h
  rw [List.drop_eq_getElem_cons h1, h2, maxB]
theorem maxB_spec (p : BidV → Bool) : ∀ (bs : List BidV) (m : Int), m ≤ maxB p bs m ∧ (∀ b ∈ bs, p b = true → b.most ≤ maxB p bs m) ∧ (maxB p bs m = m ∨ ∃ b ∈ bs, p b = true ∧ b.most = maxB p bs m)
  | [], m => ⟨Int.le_refl _, fun _ h => (by cases h), .inl rfl⟩
  | b :: l, m => by
    rw [maxB]
    by_cases hb : p b = true
    · rw [if_pos hb]
      obtain ⟨h1, h2, h3⟩ := maxB_spec p l (max m b.most)
      refine ⟨by omega, fun q hq hw => ?_, ?_⟩
      · rcases List.mem_cons.1 hq with e | e
        · rw [e]; omega
        · exact h2 q e hw
      · rcases h3 with e | ⟨q, hq, x⟩
        · by_cases hm : m ≤ b.most
          · exact .inr ⟨b, List.mem_cons_self .., hb, by omega⟩
          · exact .inl (by omega)
        · exact .inr ⟨q, List.mem_cons_of_mem _ hq, x⟩
    · rw [if_neg hb]
      obtain ⟨h1, h2, h3⟩ := maxB_spec p l m
      refine ⟨h1, fun q hq hw => ?_, h3.imp id fun ⟨q, hq, x⟩ => ⟨q, List.mem_cons_of_mem _ hq, x⟩⟩
      rcases List.mem_cons.1 hq with e | e
      · exact absurd (e ▸ hw) hb
      · exact h2 q e hw
theorem own_rung {rs : List Int} (h : Asc rs) {bs : List BidV} {W : BidV} (hw : IsWin (offs rs bs) W) (h1 : ∀ b ∈ bs, 1 ≤ b.most) : rungF (maxB (fun b => b.who == W.who) bs 0) rs 0 = W.most := by
  obtain ⟨a1, a2, a3⟩ := maxB_spec (fun b => b.who == W.who) bs 0
  obtain ⟨hp, b, hb, e⟩ := mem_offs.1 hw.mem
  have hwho : b.who = W.who := by rw [← e]; rfl
  have hm : rungF b.most rs 0 = W.most := by rw [← e]; rfl
  have h2 := rungF_mono h (a2 b hb (by simp [hwho]))
  rcases a3 with e' | ⟨c, hc, hcw, hcm⟩
  · have := a2 b hb (by simp [hwho]); have := h1 b hb; omega
  · rw [← hcm] at h2 ⊢
    have hco : offer1 rs c ∈ offs rs bs := mem_offs.2 ⟨by unfold offer1; simp only; omega, c, hc, rfl⟩
    have := hw.most hco
    unfold offer1 at this
    simp only at this
    omega
theorem other_rung {rs : List Int} (h : Asc rs) {bs : List BidV} {w s : Int} (hk : IsSec (offs rs bs) w s) (h0 : 0 ≤ s) : rungF (maxB (fun b => !(b.who == w)) bs 0) rs 0 ≤ s := by
  obtain ⟨a1, a2, a3⟩ := maxB_spec (fun b => !(b.who == w)) bs 0
  rcases a3 with e' | ⟨c, hc, hcw, hcm⟩
  · rw [e']
    rcases rungF_spec (n := 0) rs 0 h with ⟨e, _⟩ | ⟨a, b, _⟩
    · omega
    · have := (h.pos _ a).1; omega
  · by_cases hp : 0 < rungF c.most rs 0
    · rw [← hcm]
      exact hk.le (offer1 rs c) (mem_offs.2 ⟨hp, c, hc, rfl⟩) (show c.who ≠ w by simpa using hcw)
    · rw [← hcm]; omega
theorem price_bd {rs : List Int} (h : Asc rs) {start limit second : Int} (h0 : 0 ≤ start) (hl : limit ∈ rs) (hsl : ∀ r ∈ rs, start ≤ r) (hle : second ≤ limit) : start ≤ priceF rs start limit second ∧ second ≤ priceF rs start limit second ∧ priceF rs start limit second ≤ limit := by
  have h1 := hsl _ hl
  have h2 := (h.pos _ hl).1
  unfold priceF
  split
  · omega
  · split
    · omega
    · rcases behF_spec (n := second) rs h with ⟨_, k⟩ | ⟨k1, k2, k3⟩
      · have := k _ hl; omega
      · exact ⟨hsl _ k1, by omega, k3 _ hl (by omega)⟩
end Am
namespace Am

theorem price_mono {rs : List Int} (h : Asc rs) {start a b s t : Int} (h0 : 0 ≤ start) (hb : b ∈ rs) (hsl : ∀ r ∈ rs, start ≤ r) (ht : t = 0 ∨ t ∈ rs) (hs : 0 ≤ s) (hst : s ≤ t) (hab : a ≤ b) (hsa : s ≤ a) (htb : t ≤ b) : priceF rs start a s ≤ priceF rs start b t := by
  obtain ⟨p1, p2, p3⟩ := price_bd h h0 hb hsl htb
  by_cases h1 : s = a
  · have : priceF rs start a s = a := if_pos h1
    omega
  · by_cases h2 : s = 0
    · have : priceF rs start a s = start := by unfold priceF; rw [if_neg h1, if_pos h2]
      omega
    · have e : priceF rs start a s = behF s rs := by unfold priceF; rw [if_neg h1, if_neg h2]
      rw [e]
      by_cases h3 : s = t
      · have : priceF rs start b t = behF s rs := by unfold priceF; rw [if_neg (by omega), if_neg (by omega), h3]
        omega
      · rcases behF_spec (n := s) rs h with ⟨_, k⟩ | ⟨_, _, k3⟩
        · have := k b hb; omega
        · have := k3 t (ht.resolve_left (by omega)) (by omega); omega
theorem knock_of_lead {rs : List Int} {start least : Int} {os : List BidV} {x : LeadV} (h : LeadIs rs start os x) (hq : ∀ q ∈ os, 0 ≤ q.who) (hp : ∀ q ∈ os, 1 ≤ q.most) : knockF rs start least os = if x.who = -1 ∨ least = 0 ∨ x.limit < least then ⟨-1, 0⟩ else ⟨x.who, max least x.price⟩ := by
  rcases h with ⟨e, ex⟩ | ⟨W, hW, a1, a2, a3, a4, a0, a5, a6⟩
  · rw [e, ex]; simp [knockF, winO, lead0]
  · rw [knock_eq hW a4 hp]
    have := hq _ hW.mem
    have hne : ¬ W.who = -1 := by omega
    simp only [a1, a2, a6, hne, false_or]
theorem step_more {rs : List Int} (ha : Asc rs) {start : Int} (h0 : 0 ≤ start) (hsl : ∀ r ∈ rs, start ≤ r) {os : List BidV} {x : LeadV} {o : BidV} (h : LeadIs rs start os x) (hx : x.who ≠ -1) (ho : o.most ∈ rs) (hw : 0 ≤ o.who) (hr : ∀ q ∈ os, q.most ∈ rs) (hq : ∀ q ∈ os, 0 ≤ q.who) : (stepP rs start x o).who ≠ -1 ∧ x.limit ≤ (stepP rs start x o).limit ∧ x.price ≤ (stepP rs start x o).price := by
  have hn := lead_step h (ha.pos _ ho).1 hw (fun q hq' => (ha.pos _ (hr q hq')).1) hq
  rcases hn with ⟨e, _⟩ | ⟨V, hV, n1, n2, n3, n4, n0, n5, n6⟩
  · simp at e
  have hVm : V.most ∈ rs ∧ 0 ≤ V.who := by
    rcases List.mem_append.1 hV.mem with e | e
    · exact ⟨hr _ e, hq _ e⟩
    · simp at e; rw [e]; exact ⟨ho, hw⟩
  have hsr : (stepP rs start x o).second = 0 ∨ (stepP rs start x o).second ∈ rs := n4.at_.imp id fun ⟨q, hq', _, e⟩ => by
    rw [← e]
    rcases List.mem_append.1 hq' with e' | e'
    · exact hr _ e'
    · simp at e'; rw [e']; exact ho
  rcases h with ⟨e, ex⟩ | ⟨W, hW, a1, a2, a3, a4, a0, a5, a6⟩
  · rw [ex] at hx; exact absurd rfl hx
  have hls : x.limit ≤ (stepP rs start x o).limit ∧ x.second ≤ (stepP rs start x o).second := by
    unfold stepP
    split
    · split
      · rename_i hb
        rw [beats_iff] at hb
        simp only at hb ⊢; omega
      · exact ⟨Int.le_refl _, Int.le_refl _⟩
    · split
      · rename_i hb
        rcases hb with hb | hb
        · exact absurd hb hx
        · rw [beats_iff] at hb
          simp only at hb ⊢; omega
      · simp only; omega
  refine ⟨by omega, hls.1, ?_⟩
  rw [a6, n6]
  exact price_mono ha h0 (n2 ▸ hVm.1) hsl hsr a0 hls.2 hls.1 a5 n5
/-- a bid more -/
theorem knock_more {rs : List Int} (ha : Asc rs) {start least : Int} (h0 : 0 ≤ start) (hsl : ∀ r ∈ rs, start ≤ r) {bs : List BidV} {b : BidV} (hb : ∀ c ∈ bs, 0 ≤ c.who ∧ c.who ≤ 99) (hw : 0 ≤ b.who) (hk : (knockF rs start least (offs rs bs)).winner ≠ -1) : (knockF rs start least (offs rs (bs ++ [b]))).winner ≠ -1 ∧ (knockF rs start least (offs rs bs)).price ≤ (knockF rs start least (offs rs (bs ++ [b]))).price := by
  have hl := room_end (rs := rs) (start := start) bs hb
  have hq : ∀ q ∈ offs rs bs, 0 ≤ q.who := fun q hq => (offs_who hb hq).1
  have hp : ∀ q ∈ offs rs bs, 1 ≤ q.most := fun q hq => offs_pos hq
  have hr : ∀ q ∈ offs rs bs, q.most ∈ rs := fun q hq => offs_rung ha hq
  rw [offs_snoc]
  by_cases hbm : 0 < (offer1 rs b).most
  · rw [if_pos hbm]
    have hor : (offer1 rs b).most ∈ rs := by
      rcases rungF_spec (n := b.most) rs 0 ha with ⟨e, _⟩ | ⟨e, _⟩
      · unfold offer1 at hbm; rw [e] at hbm; simp at hbm
      · exact e
    have e1 := knock_of_lead (least := least) hl hq hp
    rw [e1] at hk ⊢
    by_cases hc : (roomE rs start bs).who = -1 ∨ least = 0 ∨ (roomE rs start bs).limit < least
    · rw [if_pos hc] at hk; exact absurd rfl hk
    · rw [if_neg hc] at hk ⊢
      obtain ⟨m1, m2, m3⟩ := step_more ha h0 hsl hl (fun e => hc (.inl e)) hor hw hr hq
      have hn := lead_step hl (by omega : 1 ≤ (offer1 rs b).most) hw hp hq
      have hq' : ∀ q ∈ offs rs bs ++ [offer1 rs b], 0 ≤ q.who := fun q hq'' => by
        rcases List.mem_append.1 hq'' with e | e
        · exact hq _ e
        · simp at e; rw [e]; exact hw
      have hp' : ∀ q ∈ offs rs bs ++ [offer1 rs b], 1 ≤ q.most := fun q hq'' => by
        rcases List.mem_append.1 hq'' with e | e
        · exact hp _ e
        · simp at e; rw [e]; omega
      rw [knock_of_lead (least := least) hn hq' hp', if_neg (by omega)]
      exact ⟨m1, by simp only; omega⟩
  · rw [if_neg hbm]; exact ⟨hk, Int.le_refl _⟩
/-- a greater reserve -/
theorem knock_dear {rs : List Int} {start l m : Int} {os : List BidV} (hk : (knockF rs start l os).winner ≠ -1) (hm : m = 0 ∨ l ≤ m) : knockF rs start m os = ⟨-1, 0⟩ ∨ ((knockF rs start m os).winner = (knockF rs start l os).winner ∧ (knockF rs start l os).price ≤ (knockF rs start m os).price) := by
  unfold knockF at *
  generalize winO os = w at *
  cases w with
  | none => exact .inl rfl
  | some W =>
    simp only at hk ⊢
    by_cases h1 : l = 0 ∨ W.most < l
    · rw [if_pos h1] at hk; exact absurd rfl hk
    · rw [if_neg h1]
      by_cases h2 : m = 0 ∨ W.most < m
      · rw [if_pos h2]; exact .inl rfl
      · rw [if_neg h2]; right; exact ⟨rfl, by simp only; omega⟩
theorem knock_none {rs : List Int} {start l : Int} {os : List BidV} (hq : ∀ q ∈ os, 0 ≤ q.who) (h : (knockF rs start l os).winner = -1) : (knockF rs start l os).price = 0 := by
  rcases winO_spec os with ⟨e, _⟩ | ⟨W, e, hW⟩
  · unfold knockF; rw [e]
  · have := hq _ hW.mem
    unfold knockF at h ⊢
    rw [e] at h ⊢
    simp only at h ⊢
    by_cases h1 : l = 0 ∨ W.most < l
    · rw [if_pos h1]
    · rw [if_neg h1] at h; simp only at h; omega
theorem knock_sold {rs : List Int} {start l : Int} {os : List BidV} (hp : ∀ q ∈ os, 1 ≤ q.most) (hk : (knockF rs start l os).winner ≠ -1) : ∃ W s, IsWin os W ∧ IsSec os W.who s ∧ 0 ≤ s ∧ s ≤ W.most ∧ l ≠ 0 ∧ l ≤ W.most ∧ knockF rs start l os = ⟨W.who, max l (priceF rs start W.most s)⟩ := by
  rcases winO_spec os with ⟨e, _⟩ | ⟨W, e, hW⟩
  · unfold knockF at hk; rw [e] at hk; exact absurd rfl hk
  · obtain ⟨h1, h2⟩ := secO_spec W.who os hp
    have h3 : secO W.who os ≤ W.most := by
      rcases h1.at_ with e' | ⟨o, ho, _, e'⟩
      · have := hp _ hW.mem; omega
      · rw [← e']; exact hW.most ho
    have e' := knock_eq (rs := rs) (start := start) (least := l) hW h1 hp
    by_cases hc : l = 0 ∨ W.most < l
    · rw [e', if_pos hc] at hk; exact absurd rfl hk
    · rw [if_neg hc] at e'
      exact ⟨W, _, hW, h1, h2, h3, fun e => hc (.inl e), by omega, e'⟩
/-- the rung of the reserve, as the law finds it -/
def floorF (rs : List Int) (start reserve : Int) : Int × Bool :=
  if reserve ≤ start then (start, true) else
  let n := rungF reserve rs 0
  if n = 0 then (0, false) else if n < reserve then (behF n rs, !(behF n rs == 0)) else (n, true)
theorem floor_eq {lad : List RiseV} (h : LadOk lad) {start reserve : Int} (hs : 1 ≤ start) (hs2 : start ≤ 100000) : floorF (rgL lad start) start reserve = (behF (reserve - 1) (rgL lad start), !(behF (reserve - 1) (rgL lad start) == 0)) := by
  have ha := rgL_asc h hs
  have hst : start ∈ rgL lad start := by rw [rgL_step h (by omega), if_pos hs2]; exact List.mem_cons_self ..
  unfold floorF
  by_cases h1 : reserve ≤ start
  · rw [if_pos h1, rgL_step h (by omega), if_pos hs2, behF, if_pos (by omega)]
    have : (start == 0) = false := by simp; omega
    rw [this]; rfl
  · rw [if_neg h1]
    rcases rungF_spec (n := reserve) (rgL lad start) 0 ha with ⟨_, k⟩ | ⟨k1, k2, k3⟩
    · have := k _ hst; omega
    · have hp := (ha.pos _ k1).1
      simp only
      rw [if_neg (by omega)]
      by_cases h2 : rungF reserve (rgL lad start) 0 < reserve
      · rw [if_pos h2]
        have e : behF (rungF reserve (rgL lad start) 0) (rgL lad start) = behF (reserve - 1) (rgL lad start) := by
          rcases behF_spec (n := rungF reserve (rgL lad start) 0) _ ha with ⟨e, a⟩ | ⟨a1, a2, a3⟩
          · rcases behF_spec (n := reserve - 1) _ ha with ⟨e', b⟩ | ⟨b1, b2, b3⟩
            · rw [e, e']
            · have := a _ b1; omega
          · have hgt : reserve - 1 < behF (rungF reserve (rgL lad start) 0) (rgL lad start) := by
              by_cases hh : behF (rungF reserve (rgL lad start) 0) (rgL lad start) ≤ reserve
              · have := k3 _ a1 hh; omega
              · omega
            rcases behF_spec (n := reserve - 1) _ ha with ⟨e', b⟩ | ⟨b1, b2, b3⟩
            · have := b _ a1; omega
            · have := a3 _ b1 (by omega); have := b3 _ a1 hgt; omega
        rw [e]
      · rw [if_neg h2]
        have hrr : rungF reserve (rgL lad start) 0 = reserve := by omega
        have e : behF (reserve - 1) (rgL lad start) = reserve := by
          rcases behF_spec (n := reserve - 1) _ ha with ⟨_, b⟩ | ⟨b1, b2, b3⟩
          · have := b _ k1; omega
          · have := b3 _ k1 (by omega); omega
        rw [e, hrr]
        have : (reserve == 0) = false := by simp; omega
        rw [this]; rfl
theorem rgL_start {lad : List RiseV} (h : LadOk lad) {start : Int} (hs : 1 ≤ start) : ∀ r ∈ rgL lad start, start ≤ r := (rgs_asc h _ start hs).2
end Am
namespace Am
/-- a sum over the first n numbers -/
def sumN : Nat → (Nat → Int) → Int
  | 0, _ => 0
  | n + 1, f => sumN n f + f n
theorem sumN_congr {n : Nat} {f g : Nat → Int} (h : ∀ i, i < n → f i = g i) : sumN n f = sumN n g := by
  induction n with
  | zero => rfl
  | succ n ih => rw [sumN, sumN, ih (fun i hi => h i (by omega)), h n (by omega)]
theorem sumN_add (n : Nat) (f g : Nat → Int) : sumN n (fun i => f i + g i) = sumN n f + sumN n g := by
  induction n with
  | zero => rfl
  | succ n ih => rw [sumN, sumN, sumN, ih]; omega
theorem sumN_le {n : Nat} {f g : Nat → Int} (h : ∀ i, i < n → f i ≤ g i) : sumN n f ≤ sumN n g := by
  induction n with
  | zero => exact Int.le_refl _
  | succ n ih => rw [sumN, sumN]; have := ih (fun i hi => h i (by omega)); have := h n (by omega); omega
theorem sumN_one {n k : Nat} (f : Nat → Int) (hk : k < n) (h : ∀ i, i < n → i ≠ k → f i = 0) : sumN n f = f k := by
  induction n with
  | zero => omega
  | succ n ih =>
    rw [sumN]
    by_cases e : n = k
    · subst e
      rw [sumN_congr (g := fun _ => 0) (fun i hi => h i (by omega) (by omega))]
      have : ∀ m, sumN m (fun _ => 0) = 0 := by intro m; induction m with
        | zero => rfl
        | succ m ih => rw [sumN, ih]; rfl
      rw [this]; omega
    · rw [ih (by omega) (fun i hi hne => h i (by omega) hne), h n (by omega) e]; omega
theorem sumN_zero (n : Nat) : sumN n (fun _ => 0) = 0 := by
  induction n with
  | zero => rfl
  | succ n ih => rw [sumN, ih]; rfl
/-- one place is another -/
theorem sumN_upd {n k : Nat} (f g : Nat → Int) (hk : k < n) (h : ∀ i, i < n → i ≠ k → f i = g i) : sumN n f = sumN n g - g k + f k := by
  have := sumN_add n g (fun i => f i - g i)
  rw [sumN_one (fun i => f i - g i) hk (fun i hi hne => by have := h i hi hne; omega)] at this
  rw [sumN_congr (f := f) (g := fun i => g i + (f i - g i)) (fun i _ => by omega), this]; omega

/-- who gets which lot: of n bidders, of m lots -/
structure Val (n m : Nat) (σ : Nat → Option Nat) : Prop where
  lot : ∀ i j, i < n → σ i = some j → j < m
  inj : ∀ i i' j, i < n → i' < n → σ i = some j → σ i' = some j → i = i'
def gt (w : Nat → Nat → Int) (i : Nat) : Option Nat → Int
  | none => 0
  | some j => w i j
def wt (n : Nat) (w : Nat → Nat → Int) (σ : Nat → Option Nat) : Int := sumN n (fun i => gt w i (σ i))
/-- a lot more, that is as lot k -/
def dup (m k : Nat) (w : Nat → Nat → Int) : Nat → Nat → Int := fun i j => w i (if j = m then k else j)
structure IsMax (n m : Nat) (w : Nat → Nat → Int) (M : Int) : Prop where
  at_ : ∃ σ, Val n m σ ∧ wt n w σ = M
  le : ∀ σ, Val n m σ → wt n w σ ≤ M
theorem IsMax.uniq {n m : Nat} {w : Nat → Nat → Int} {M M' : Int} (h : IsMax n m w M) (h' : IsMax n m w M') : M = M' := by
  obtain ⟨σ, h1, h2⟩ := h.at_
  obtain ⟨σ', h3, h4⟩ := h'.at_
  have := h.le σ' h3
  have := h'.le σ h1
  omega

/-! ### Exchange -/
inductive Dx (n m : Nat) (σ τ : Nat → Option Nat) : Nat → Prop
  | start {i : Nat} : i < n → τ i = some m → Dx n m σ τ i
  | step {i j b : Nat} : Dx n m σ τ i → σ i = some b → j < n → τ j = some b → Dx n m σ τ j
theorem Dx.lt {n m : Nat} {σ τ : Nat → Option Nat} {i : Nat} (h : Dx n m σ τ i) : i < n := by cases h <;> assumption
theorem Dx.lot {n m : Nat} {σ τ : Nat → Option Nat} {i b : Nat} (h : Dx n m σ τ i) (hb : τ i = some b) : b = m ∨ ∃ j, Dx n m σ τ j ∧ σ j = some b := by
  cases h with
  | start _ h => rw [h] at hb; injection hb with hb; exact .inl hb.symm
  | step h1 h2 _ h3 => rw [h3] at hb; injection hb with hb; subst hb; exact .inr ⟨_, h1, h2⟩
open Classical in
noncomputable def xs (n m : Nat) (σ τ : Nat → Option Nat) (i : Nat) : Option Nat := if Dx n m σ τ i then τ i else σ i
open Classical in
noncomputable def xt (n m : Nat) (σ τ : Nat → Option Nat) (i : Nat) : Option Nat := if Dx n m σ τ i then σ i else τ i
section
variable {n m : Nat} {σ τ : Nat → Option Nat}
theorem xs_y {i : Nat} (h : Dx n m σ τ i) : xs n m σ τ i = τ i := if_pos h
theorem xs_n {i : Nat} (h : ¬ Dx n m σ τ i) : xs n m σ τ i = σ i := if_neg h
theorem xt_y {i : Nat} (h : Dx n m σ τ i) : xt n m σ τ i = σ i := if_pos h
theorem xt_n {i : Nat} (h : ¬ Dx n m σ τ i) : xt n m σ τ i = τ i := if_neg h
theorem xs_val (hs : Val n m σ) (ht : Val n (m + 1) τ) : Val n (m + 1) (xs n m σ τ) := by
  have mix : ∀ i i' j, i < n → i' < n → Dx n m σ τ i → ¬ Dx n m σ τ i' → τ i = some j → σ i' = some j → False := by
    intro i i' j hi hi' d d' h h'
    rcases d.lot h with e | ⟨k, dk, hk⟩
    · subst e; have := hs.lot i' _ hi' h'; omega
    · have := hs.inj k i' j dk.lt hi' hk h'; subst this; exact d' dk
  refine ⟨fun i j hi h => ?_, fun i i' j hi hi' h h' => ?_⟩
  · by_cases d : Dx n m σ τ i
    · rw [xs_y d] at h; exact ht.lot i j hi h
    · rw [xs_n d] at h; have := hs.lot i j hi h; omega
  · by_cases d : Dx n m σ τ i <;> by_cases d' : Dx n m σ τ i'
    · rw [xs_y d] at h; rw [xs_y d'] at h'; exact ht.inj i i' j hi hi' h h'
    · rw [xs_y d] at h; rw [xs_n d'] at h'; exact (mix i i' j hi hi' d d' h h').elim
    · rw [xs_n d] at h; rw [xs_y d'] at h'; exact (mix i' i j hi' hi d' d h' h).elim
    · rw [xs_n d] at h; rw [xs_n d'] at h'; exact hs.inj i i' j hi hi' h h'
theorem xt_val (hs : Val n m σ) (ht : Val n (m + 1) τ) : Val n m (xt n m σ τ) := by
  refine ⟨fun i j hi h => ?_, fun i i' j hi hi' h h' => ?_⟩
  · by_cases d : Dx n m σ τ i
    · rw [xt_y d] at h; exact hs.lot i j hi h
    · rw [xt_n d] at h
      have := ht.lot i j hi h
      by_cases e : j = m
      · subst e; exact absurd (.start hi h) d
      · omega
  · by_cases d : Dx n m σ τ i <;> by_cases d' : Dx n m σ τ i'
    · rw [xt_y d] at h; rw [xt_y d'] at h'; exact hs.inj i i' j hi hi' h h'
    · rw [xt_y d] at h; rw [xt_n d'] at h'; exact absurd (.step d h hi' h') d'
    · rw [xt_n d] at h; rw [xt_y d'] at h'; exact absurd (.step d' h' hi h) d
    · rw [xt_n d] at h; rw [xt_n d'] at h'; exact ht.inj i i' j hi hi' h h'
theorem xs_img {i b : Nat} (hi : i < n) (hb : b < m) (h : xs n m σ τ i = some b) : ∃ j, j < n ∧ σ j = some b := by
  by_cases d : Dx n m σ τ i
  · rw [xs_y d] at h
    rcases d.lot h with e | ⟨k, dk, hk⟩
    · omega
    · exact ⟨k, dk.lt, hk⟩
  · rw [xs_n d] at h; exact ⟨i, hi, h⟩
theorem Dx.some {i : Nat} (h : Dx n m σ τ i) : τ i ≠ none := by cases h <;> simp [*]
theorem x_sum (w w' : Nat → Nat → Int) (hs : Val n m σ) (ht : Val n (m + 1) τ) (hw : ∀ i j, j < m → w' i j = w i j) : wt n w' (xs n m σ τ) + wt n w (xt n m σ τ) = wt n w σ + wt n w' τ := by
  unfold wt
  rw [← sumN_add, ← sumN_add]
  refine sumN_congr fun i hi => ?_
  have hv := xt_val hs ht
  by_cases d : Dx n m σ τ i
  · rw [xs_y d, xt_y d]; exact Int.add_comm _ _
  · rw [xs_n d, xt_n d]
    have e1 : gt w' i (σ i) = gt w i (σ i) := by
      cases h : σ i with
      | none => rfl
      | some j => exact hw i j (hs.lot i j hi h)
    have e2 : gt w i (τ i) = gt w' i (τ i) := by
      cases h : τ i with
      | none => rfl
      | some j =>
        have := hv.lot i j hi (by rw [xt_n d]; exact h)
        exact (hw i j this).symm
    rw [e1, e2]
end
theorem dup_lt {m k : Nat} {w : Nat → Nat → Int} (i j : Nat) (hj : j < m) : dup m k w i j = w i j := by
  unfold dup; rw [if_neg (by omega)]

/-! ### Lots that are renamed -/
/-- the copy of lot k is lot k -/
def undup (m k : Nat) (σ : Nat → Option Nat) : Nat → Option Nat := fun i => (σ i).map (fun j => if j = m then k else j)
theorem undup_wt (n m k : Nat) (w : Nat → Nat → Int) (σ : Nat → Option Nat) : wt n w (undup m k σ) = wt n (dup m k w) σ := by
  unfold wt
  refine sumN_congr fun i _ => ?_
  unfold undup
  cases σ i <;> rfl
theorem undup_val {n m k : Nat} {σ : Nat → Option Nat} (h : Val n (m + 1) σ) (hk : k < m) (hno : ∀ i, i < n → σ i ≠ some k) : Val n m (undup m k σ) := by
  refine ⟨fun i j hi e => ?_, fun i i' j hi hi' e e' => ?_⟩
  · unfold undup at e
    obtain ⟨b, hb, e⟩ := Option.map_eq_some_iff.1 e
    have := h.lot i b hi hb
    split at e <;> omega
  · unfold undup at e e'
    obtain ⟨b, hb, e⟩ := Option.map_eq_some_iff.1 e
    obtain ⟨b', hb', e'⟩ := Option.map_eq_some_iff.1 e'
    have hbk : b ≠ k := fun e => hno i hi (e ▸ hb)
    have hbk' : b' ≠ k := fun e => hno i' hi' (e ▸ hb')
    have : b = b' := by split at e <;> split at e' <;> omega
    subst this
    exact h.inj i i' b hi hi' hb hb'
/-- lot k that nobody gets in a best award: another one like it is worth nothing more -/
theorem unsold {n m k : Nat} {w : Nat → Nat → Int} {M Mk : Int} {σ : Nat → Option Nat} (hs : Val n m σ) (hM : IsMax n m w M) (hMk : IsMax n (m + 1) (dup m k w) Mk) (ho : wt n w σ = M) (hk : k < m) (hno : ∀ i, i < n → σ i ≠ some k) : Mk ≤ M := by
  obtain ⟨τ, ht, hτ⟩ := hMk.at_
  have e := x_sum w (dup m k w) hs ht (fun i j hj => dup_lt i j hj)
  have h1 := hM.le _ (xt_val hs ht)
  have h2 := hM.le _ (undup_val (k := k) (xs_val hs ht) hk (fun i hi e => by
    obtain ⟨j, hj, h⟩ := xs_img hi hk e
    exact hno j hj h))
  rw [undup_wt] at h2
  omega

/-! ### What a bidder adds -/
inductive Rx (n s i : Nat) (σ τ : Nat → Option Nat) : Nat → Prop
  | start {j : Nat} : j < n → τ j = some s → Rx n s i σ τ j
  | step {j j' b : Nat} : Rx n s i σ τ j → j ≠ i → σ j = some b → j' < n → τ j' = some b → Rx n s i σ τ j'
theorem Rx.lt {n s i : Nat} {σ τ : Nat → Option Nat} {j : Nat} (h : Rx n s i σ τ j) : j < n := by cases h <;> assumption
theorem dx_rx {n m i : Nat} {σ τ : Nat → Option Nat} {j : Nat} (h : Dx n m σ τ j) : Rx n m i σ τ j ∨ Rx n m i σ τ i := by
  induction h with
  | start h1 h2 => exact .inl (.start h1 h2)
  | @step a b c _ h1 h2 h3 ih =>
    rcases ih with ih | ih
    · by_cases e : a = i
      · subst e; exact .inr ih
      · exact .inl (.step ih e h1 h2 h3)
    · exact .inr ih
/-- lots a and m change their names -/
def swp (a m : Nat) (τ : Nat → Option Nat) : Nat → Option Nat := fun i => (τ i).map (fun j => if j = m then a else if j = a then m else j)
theorem swp_val {n m a : Nat} {τ : Nat → Option Nat} (h : Val n (m + 1) τ) (ha : a < m) : Val n (m + 1) (swp a m τ) := by
  refine ⟨fun i j hi e => ?_, fun i i' j hi hi' e e' => ?_⟩
  · unfold swp at e
    obtain ⟨b, hb, e⟩ := Option.map_eq_some_iff.1 e
    have := h.lot i b hi hb
    split at e
    · omega
    · split at e <;> omega
  · unfold swp at e e'
    obtain ⟨b, hb, e⟩ := Option.map_eq_some_iff.1 e
    obtain ⟨b', hb', e'⟩ := Option.map_eq_some_iff.1 e'
    have : b = b' := by
      split at e <;> split at e'
      · omega
      · split at e' <;> omega
      · split at e <;> omega
      · split at e <;> split at e' <;> omega
    subst this
    exact h.inj i i' b hi hi' hb hb'
theorem swp_wt (n m a : Nat) (w : Nat → Nat → Int) (τ : Nat → Option Nat) : wt n (dup m a w) (swp a m τ) = wt n (dup m a w) τ := by
  unfold wt
  refine sumN_congr fun i _ => ?_
  unfold swp
  cases τ i with
  | none => rfl
  | some j =>
    show dup m a w i (if j = m then a else if j = a then m else j) = dup m a w i j
    unfold dup
    congr 1
    by_cases h1 : j = m
    · rw [if_pos h1, if_pos h1]
      by_cases e : a = m
      · rw [if_pos e]
      · rw [if_neg e]
    · rw [if_neg h1, if_neg h1]
      by_cases h2 : j = a
      · rw [if_pos h2, if_pos rfl, h2]
      · rw [if_neg h2, if_neg h1]
theorem swp_m {a m : Nat} {τ : Nat → Option Nat} {j : Nat} (ha : a ≠ m) (h : swp a m τ j = some m) : τ j = some a := by
  unfold swp at h
  obtain ⟨b, hb, e⟩ := Option.map_eq_some_iff.1 h
  split at e
  · omega
  · split at e
    · rename_i h2; rw [hb, h2]
    · omega
theorem swp_o {a m : Nat} {τ : Nat → Option Nat} {j b : Nat} (h1 : b ≠ a) (h2 : b ≠ m) (h : swp a m τ j = some b) : τ j = some b := by
  unfold swp at h
  obtain ⟨c, hc, e⟩ := Option.map_eq_some_iff.1 h
  split at e
  · omega
  · split at e
    · omega
    · rw [hc, e]
theorem rx_swp {n m a i : Nat} {σ τ : Nat → Option Nat} (hs : Val n m σ) (ha : a < m) (hi : i < n) (hia : σ i = some a) {j : Nat} (h : Rx n m i σ (swp a m τ) j) : Rx n a i σ τ j := by
  induction h with
  | start h1 h2 => exact .start h1 (swp_m (by omega) h2)
  | @step j j' b h0 h1 h2 h3 h4 ih =>
    have hb := hs.lot j b h0.lt h2
    have hba : b ≠ a := fun e => h1 (hs.inj j i a h0.lt hi (e ▸ h2) hia)
    exact .step ih h1 h2 h3 (swp_o hba (by omega) h4)
theorem rx_no {n m a i : Nat} {σ τ : Nat → Option Nat} (hs : Val n m σ) (ha : a < m) (hi : i < n) (hia : σ i = some a) {j : Nat} (h : Rx n m i σ τ j) : ¬ Rx n a i σ τ j := by
  induction h with
  | @start j h1 h2 =>
    intro h
    cases h with
    | start _ h3 => rw [h2] at h3; injection h3 with h3; omega
    | step h3 _ h4 _ h5 =>
      rw [h2] at h5; injection h5 with h5
      have := hs.lot _ _ h3.lt h4; omega
  | @step j j' b h0 h1 h2 h3 h4 ih =>
    intro h
    cases h with
    | start _ h5 =>
      rw [h4] at h5; injection h5 with h5
      exact h1 (hs.inj j i a h0.lt hi (h5 ▸ h2) hia)
    | step h5 _ h6 _ h7 =>
      rw [h4] at h7; injection h7 with h7
      subst h7
      have := hs.inj _ _ _ h5.lt h0.lt h6 h2
      subst this
      exact ih h5
/-- the most that others can get without bidder i -/
structure IsMaxO (n m i : Nat) (w : Nat → Nat → Int) (M : Int) : Prop where
  at_ : ∃ σ, Val n m σ ∧ σ i = none ∧ wt n w σ = M
  le : ∀ σ, Val n m σ → σ i = none → wt n w σ ≤ M
def drp (i : Nat) (σ : Nat → Option Nat) : Nat → Option Nat := fun k => if k = i then none else σ k
theorem drp_val {n m i : Nat} {σ : Nat → Option Nat} (h : Val n m σ) : Val n m (drp i σ) := by
  refine ⟨fun k j hk e => ?_, fun k k' j hk hk' e e' => ?_⟩
  · unfold drp at e; split at e
    · cases e
    · exact h.lot k j hk e
  · unfold drp at e e'
    split at e
    · cases e
    · split at e'
      · cases e'
      · exact h.inj k k' j hk hk' e e'
theorem drp_wt {n i : Nat} (w : Nat → Nat → Int) (σ : Nat → Option Nat) (hi : i < n) : wt n w (drp i σ) = wt n w σ - gt w i (σ i) := by
  unfold wt
  rw [sumN_upd (fun k => gt w k (drp i σ k)) (fun k => gt w k (σ k)) hi (fun k _ hne => by simp only [drp, if_neg hne])]
  simp only [drp, if_pos rfl]; simp [gt]
/-- another lot like the one that a bidder gets is worth as much as the bidder's being away, and the bidder's value -/
theorem vick {n m a i : Nat} {w : Nat → Nat → Int} {M Ma Mi : Int} {σ : Nat → Option Nat} (hs : Val n m σ) (hM : IsMax n m w M) (hMa : IsMax n (m + 1) (dup m a w) Ma) (hMi : IsMaxO n m i w Mi) (ho : wt n w σ = M) (hi : i < n) (hia : σ i = some a) : Ma = Mi + w i a := by
  have ha := hs.lot i a hi hia
  obtain ⟨τ, ht, hτ⟩ := hMa.at_
  have up : Mi + w i a ≤ Ma := by
    obtain ⟨ρ, h1, h2, h3⟩ := hMi.at_
    have hv : Val n (m + 1) (fun k => if k = i then some m else ρ k) := by
      refine ⟨fun k j hk e => ?_, fun k k' j hk hk' e e' => ?_⟩
      · split at e
        · injection e with e; omega
        · have := h1.lot k j hk e; omega
      · skip
        split at e <;> split at e'
        · omega
        · injection e with e; subst e; have := h1.lot k' _ hk' e'; omega
        · injection e' with e'; subst e'; have := h1.lot k _ hk e; omega
        · exact h1.inj k k' j hk hk' e e'
    have h4 := hMa.le _ hv
    have h5 : wt n (dup m a w) (fun k => if k = i then some m else ρ k) = wt n w ρ - 0 + w i a := by
      unfold wt
      rw [sumN_upd _ (fun k => gt w k (ρ k)) hi (fun k hk hne => by
        simp only [if_neg hne]
        cases h : ρ k with
        | none => rfl
        | some j => exact dup_lt k j (h1.lot k j hk h))]
      simp only [if_pos rfl, h2]; simp [gt, dup]
    omega
  have one : ∀ τ, Val n (m + 1) τ → wt n (dup m a w) τ = Ma → ¬ Dx n m σ τ i → Ma ≤ Mi + w i a := by
    intro τ ht hτ hd
    have e := x_sum w (dup m a w) hs ht (fun i j hj => dup_lt i j hj)
    have h1 := hM.le _ (xt_val hs ht)
    have hv := xs_val hs ht
    have hxi : xs n m σ τ i = some a := by rw [xs_n hd]; exact hia
    have hd2 := drp_wt (dup m a w) (xs n m σ τ) hi
    rw [hxi] at hd2
    have h2 := hMi.le (undup m a (drp i (xs n m σ τ))) (undup_val (drp_val hv) ha (fun k hk e => by
      unfold drp at e
      split at e
      · cases e
      · rename_i hne; exact hne (hv.inj k i a hk hi e hxi))) (by simp [undup, drp])
    rw [undup_wt, hd2] at h2
    have h3 : gt (dup m a w) i (some a) = w i a := dup_lt i a ha
    omega
  refine Int.le_antisymm ?_ up
  by_cases d : Dx n m σ τ i
  · refine one (swp a m τ) (swp_val ht ha) (by rw [swp_wt]; exact hτ) (fun d' => ?_)
    have r1 : Rx n m i σ τ i := (dx_rx d).elim id id
    have r2 : Rx n m i σ (swp a m τ) i := (dx_rx d').elim id id
    exact rx_no hs ha hi hia r1 (rx_swp hs ha hi hia r2)
  · exact one τ ht hτ d
/-- with a bidder more, or one lot's worth more, another lot like k is worth no less -/
theorem more_bidder {n m k : Nat} {w : Nat → Nat → Int} {M Mk N Nk : Int} (hM : IsMax n m w M) (hMk : IsMax n (m + 1) (dup m k w) Mk) (hN : IsMax (n + 1) m w N) (hNk : IsMax (n + 1) (m + 1) (dup m k w) Nk) : Mk - M ≤ Nk - N := by
  obtain ⟨τ, ht, hτ⟩ := hMk.at_
  obtain ⟨σ, hs, hσ⟩ := hN.at_
  have ext : ∀ {m' : Nat} {w' : Nat → Nat → Int} {ρ : Nat → Option Nat}, Val n m' ρ → Val (n + 1) m' (drp n ρ) ∧ wt (n + 1) w' (drp n ρ) = wt n w' ρ := by
    intro m' w' ρ h
    have hlt : ∀ k j, drp n ρ k = some j → k ≠ n ∧ ρ k = some j := by
      intro k j e; unfold drp at e; split at e
      · cases e
      · rename_i hne; exact ⟨hne, e⟩
    refine ⟨⟨fun k j hk e => h.lot k j (by have := (hlt k j e).1; omega) (hlt k j e).2, fun k k' j hk hk' e e' => h.inj k k' j (by have := (hlt k j e).1; omega) (by have := (hlt k' j e').1; omega) (hlt k j e).2 (hlt k' j e').2⟩, ?_⟩
    unfold wt
    rw [sumN]
    have : gt w' n (drp n ρ n) = 0 := by simp [drp, gt]
    rw [this, Int.add_zero]
    exact sumN_congr fun i hi => by simp only [drp]; rw [if_neg (by omega)]
  have et := ext (w' := dup m k w) ht
  have e := x_sum w (dup m k w) hs et.1 (fun i j hj => dup_lt i j hj)
  have h1 := hNk.le _ (xs_val hs et.1)
  have hxn : xt (n + 1) m σ (drp n τ) n = none := by
    have : ¬ Dx (n + 1) m σ (drp n τ) n := fun d => d.some (by simp [drp])
    rw [xt_n this]; simp [drp]
  have hv := xt_val hs et.1
  have h2 := hM.le (xt (n + 1) m σ (drp n τ)) ⟨fun i j hi => hv.lot i j (by omega), fun i i' j hi hi' => hv.inj i i' j (by omega) (by omega)⟩
  have h3 : wt (n + 1) w (xt (n + 1) m σ (drp n τ)) = wt n w (xt (n + 1) m σ (drp n τ)) := by
    unfold wt; rw [sumN, hxn]; simp [gt]
  rw [et.2] at e
  omega

/-! ### Prices -/
/-- an award (who gets what, at so much above the reserve of each lot) that is fair -/
structure FairA (n m : Nat) (w : Nat → Nat → Int) (σ : Nat → Option Nat) (q : Nat → Int) : Prop where
  val : Val n m σ
  nn : ∀ j, j < m → 0 ≤ q j
  un : ∀ j, j < m → (∀ i, i < n → σ i ≠ some j) → q j = 0
  ir : ∀ i j, i < n → σ i = some j → q j ≤ w i j
  ef : ∀ i j, i < n → j < m → w i j - q j ≤ gt (fun i j => w i j - q j) i (σ i)
/-- what is paid above the reserves, summed by lots or by bidders -/
theorem sum_img {n m : Nat} {σ : Nat → Option Nat} (q : Nat → Int) (h : Val n m σ) (h0 : ∀ j, j < m → 0 ≤ q j) : sumN n (fun i => gt (fun _ j => q j) i (σ i)) ≤ sumN m q := by
  induction n generalizing q with
  | zero =>
    rw [sumN]
    have := sumN_le (n := m) (f := fun _ => 0) (g := q) h0
    rw [sumN_zero] at this; exact this
  | succ n ih =>
    rw [sumN]
    have hv : Val n m σ := ⟨fun i j hi => h.lot i j (by omega), fun i i' j hi hi' => h.inj i i' j (by omega) (by omega)⟩
    cases hn : σ n with
    | none => have := ih q hv h0; show _ + (0 : Int) ≤ _; omega
    | some j =>
      have hj := h.lot n j (by omega) hn
      have := ih (fun k => if k = j then 0 else q k) hv (fun k hk => by split; omega; exact h0 k hk)
      rw [sumN_upd (fun k => if k = j then 0 else q k) q hj (fun k _ hne => by simp only [if_neg hne])] at this
      rw [if_pos rfl] at this
      have e : sumN n (fun i => gt (fun _ k => if k = j then 0 else q k) i (σ i)) = sumN n (fun i => gt (fun _ k => q k) i (σ i)) := sumN_congr fun i hi => by
        cases hi' : σ i with
        | none => rfl
        | some k =>
          show (if k = j then 0 else q k) = q k
          rw [if_neg]
          rintro rfl
          have := h.inj i n k (by omega) (by omega) hi' hn
          omega
      rw [e] at this
      show _ + q j ≤ _
      omega
theorem sum_img_eq {n m : Nat} {σ : Nat → Option Nat} (q : Nat → Int) (h : Val n m σ) (h0 : ∀ j, j < m → (∀ i, i < n → σ i ≠ some j) → q j = 0) : sumN n (fun i => gt (fun _ j => q j) i (σ i)) = sumN m q := by
  induction n generalizing q with
  | zero =>
    rw [sumN, sumN_congr (g := fun _ => 0) (fun j hj => h0 j hj (fun i hi => absurd hi (Nat.not_lt_zero i))), sumN_zero]
  | succ n ih =>
    rw [sumN]
    have hv : Val n m σ := ⟨fun i j hi => h.lot i j (by omega), fun i i' j hi hi' => h.inj i i' j (by omega) (by omega)⟩
    cases hn : σ n with
    | none =>
      have := ih q hv (fun j hj hno => h0 j hj (fun i hi e => by
        by_cases hin : i = n
        · rw [hin, hn] at e; cases e
        · exact hno i (by omega) e))
      show _ + (0 : Int) = _; omega
    | some j =>
      have hj := h.lot n j (by omega) hn
      have := ih (fun k => if k = j then 0 else q k) hv (fun k hk hno => by
        split
        · rfl
        · rename_i hne
          exact h0 k hk (fun i hi e => by
            by_cases hin : i = n
            · rw [hin, hn] at e; injection e with e; exact hne e.symm
            · exact hno i (by omega) e))
      rw [sumN_upd (fun k => if k = j then 0 else q k) q hj (fun k _ hne => by simp only [if_neg hne])] at this
      rw [if_pos rfl] at this
      have e : sumN n (fun i => gt (fun _ k => if k = j then 0 else q k) i (σ i)) = sumN n (fun i => gt (fun _ k => q k) i (σ i)) := sumN_congr fun i hi => by
        cases hi' : σ i with
        | none => rfl
        | some k =>
          show (if k = j then 0 else q k) = q k
          rw [if_neg]
          rintro rfl
          have := h.inj i n k (by omega) (by omega) hi' hn
          omega
      rw [e] at this
      show _ + q j = _
      omega
theorem wt_split {n : Nat} {w : Nat → Nat → Int} {q : Nat → Int} {σ : Nat → Option Nat} : wt n w σ = sumN n (fun i => gt (fun i j => w i j - q j) i (σ i)) + sumN n (fun i => gt (fun _ j => q j) i (σ i)) := by
  unfold wt
  rw [← sumN_add]
  refine sumN_congr fun i _ => ?_
  cases σ i with
  | none => rfl
  | some j => show w i j = w i j - q j + q j; omega
theorem FairA.gain {n m : Nat} {w : Nat → Nat → Int} {σ : Nat → Option Nat} {q : Nat → Int} (h : FairA n m w σ q) {i : Nat} (hi : i < n) : 0 ≤ gt (fun i j => w i j - q j) i (σ i) := by
  cases e : σ i with
  | none => exact Int.le_refl _
  | some j => have := h.ir i j hi e; show 0 ≤ w i j - q j; omega
/-- the worth of a fair award is the sum of all gains and prices -/
theorem FairA.sum {n m : Nat} {w : Nat → Nat → Int} {σ : Nat → Option Nat} {q : Nat → Int} (h : FairA n m w σ q) : wt n w σ = sumN n (fun i => gt (fun i j => w i j - q j) i (σ i)) + sumN m q := by
  rw [wt_split (q := q), sum_img_eq q h.val h.un]
theorem FairA.bound {n m : Nat} {w : Nat → Nat → Int} {σ : Nat → Option Nat} {q : Nat → Int} (h : FairA n m w σ q) {τ : Nat → Option Nat} {m' : Nat} {q' : Nat → Int} {w' : Nat → Nat → Int} (ht : Val n m' τ) (hq : ∀ j, j < m' → 0 ≤ q' j) (hw : ∀ i j, i < n → j < m' → w' i j - q' j ≤ gt (fun i j => w i j - q j) i (σ i)) :
    wt n w' τ ≤ sumN n (fun i => gt (fun i j => w i j - q j) i (σ i)) + sumN m' q' := by
  rw [wt_split (q := q')]
  have h1 := sum_img q' ht hq
  have h2 : sumN n (fun i => gt (fun i j => w' i j - q' j) i (τ i)) ≤ sumN n (fun i => gt (fun i j => w i j - q j) i (σ i)) := by
    refine sumN_le fun i hi => ?_
    cases e : τ i with
    | none => exact h.gain hi
    | some j => exact hw i j hi (ht.lot i j hi e)
  omega
/-- a fair award is worth most, and its prices are at least what another lot of the kind would be worth -/
theorem FairA.best {n m : Nat} {w : Nat → Nat → Int} {σ : Nat → Option Nat} {q : Nat → Int} (h : FairA n m w σ q) {M : Int} (hM : IsMax n m w M) : wt n w σ = M := by
  obtain ⟨τ, ht, hτ⟩ := hM.at_
  have h1 := hM.le σ h.val
  have h2 := h.bound ht h.nn (fun i j hi hj => h.ef i j hi hj)
  rw [← h.sum] at h2
  omega
theorem FairA.least {n m k : Nat} {w : Nat → Nat → Int} {σ : Nat → Option Nat} {q : Nat → Int} (h : FairA n m w σ q) {M Mk : Int} (hM : IsMax n m w M) (hMk : IsMax n (m + 1) (dup m k w) Mk) (hk : k < m) : Mk - M ≤ q k := by
  obtain ⟨τ, ht, hτ⟩ := hMk.at_
  have h2 := h.bound (q' := fun j => if j = m then q k else q j) (w' := dup m k w) ht (fun j hj => by split; exact h.nn k hk; exact h.nn j (by omega)) (fun i j hi hj => by
    unfold dup
    split
    · exact h.ef i k hi hk
    · exact h.ef i j hi (by omega))
  rw [sumN, sumN_congr (n := m) (f := fun j => if j = m then q k else q j) (g := q) (fun j hj => by rw [if_neg (by omega)]), if_pos rfl] at h2
  have h3 := h.best hM
  rw [h.sum] at h3
  omega
/-- without bidder i: there is a greatest worth -/
theorem maxO {n m i : Nat} {w : Nat → Nat → Int} {B : Int} (hB : ∀ σ, Val n m σ → σ i = none → wt n w σ ≤ B) : ∃ M, IsMaxO n m i w M := by
  have key : ∀ (d : Nat) (σ : Nat → Option Nat), Val n m σ → σ i = none → B - wt n w σ ≤ d → ∃ M, IsMaxO n m i w M := by
    intro d
    induction d with
    | zero => intro σ h1 h2 h3; exact ⟨wt n w σ, ⟨σ, h1, h2, rfl⟩, fun τ h4 h5 => by have := hB τ h4 h5; omega⟩
    | succ d ih =>
      intro σ h1 h2 h3
      by_cases h : ∃ τ, Val n m τ ∧ τ i = none ∧ wt n w σ < wt n w τ
      · obtain ⟨τ, h4, h5, h6⟩ := h
        exact ih τ h4 h5 (by omega)
      · exact ⟨wt n w σ, ⟨σ, h1, h2, rfl⟩, fun τ h4 h5 => Int.not_lt.1 (fun h6 => h ⟨τ, h4, h5, h6⟩)⟩
  have hv : Val n m (fun _ => none) := ⟨fun _ _ _ h => (by cases h), fun _ _ _ _ _ h => (by cases h)⟩
  exact key (B - wt n w (fun _ => none)).toNat _ hv rfl (by omega)
theorem maxO_of {n m i : Nat} {w : Nat → Nat → Int} {M : Int} (hM : IsMax n m w M) : ∃ Mi, IsMaxO n m i w Mi ∧ Mi ≤ M := by
  obtain ⟨Mi, h⟩ := maxO (i := i) (fun σ h1 _ => hM.le σ h1)
  obtain ⟨σ, h1, h2, h3⟩ := h.at_
  exact ⟨Mi, h, by have := hM.le σ h1; omega⟩
/-- the least prices are fair with any best award -/
theorem fair_least {n m : Nat} {w : Nat → Nat → Int} {M : Int} {σ : Nat → Option Nat} {P : Nat → Int} (hM : IsMax n m w M) (hP : ∀ k, k < m → IsMax n (m + 1) (dup m k w) (P k)) (hs : Val n m σ) (ho : wt n w σ = M) : FairA n m w σ (fun k => P k - M) := by
  have emb : ∀ {τ : Nat → Option Nat} {k : Nat}, Val n m τ → Val n (m + 1) τ ∧ wt n (dup m k w) τ = wt n w τ := by
    intro τ k h
    refine ⟨⟨fun i j hi e => by have := h.lot i j hi e; omega, h.inj⟩, ?_⟩
    unfold wt
    refine sumN_congr fun i hi => ?_
    cases e : τ i with
    | none => rfl
    | some j => exact dup_lt i j (h.lot i j hi e)
  have put : ∀ {τ : Nat → Option Nat} {i k : Nat}, Val n m τ → τ i = none → i < n → k < m → Val n (m + 1) (fun b => if b = i then some m else τ b) ∧ wt n (dup m k w) (fun b => if b = i then some m else τ b) = wt n w τ + w i k := by
    intro τ i k h h0 hi hk
    refine ⟨⟨fun b j hb e => ?_, fun b b' j hb hb' e e' => ?_⟩, ?_⟩
    · split at e
      · injection e with e; omega
      · have := h.lot b j hb e; omega
    · split at e <;> split at e'
      · omega
      · injection e with e; subst e; have := h.lot b' _ hb' e'; omega
      · injection e' with e'; subst e'; have := h.lot b _ hb e; omega
      · exact h.inj b b' j hb hb' e e'
    · unfold wt
      rw [sumN_upd _ (fun b => gt w b (τ b)) hi (fun b hb hne => by
        simp only [if_neg hne]
        cases e : τ b with
        | none => rfl
        | some j => exact dup_lt b j (h.lot b j hb e))]
      simp only [if_pos rfl, h0]
      show _ - 0 + dup m k w i m = _
      unfold dup; rw [if_pos rfl]; omega
  refine ⟨hs, fun k hk => ?_, fun k hk hno => ?_, fun i k hi e => ?_, fun i k hi hk => ?_⟩
  · have := (hP k hk).le σ (emb (k := k) hs).1; rw [(emb hs).2] at this; omega
  · have h1 := unsold hs hM (hP k hk) ho hk hno
    have := (hP k hk).le σ (emb (k := k) hs).1; rw [(emb hs).2] at this; omega
  · have hk := hs.lot i k hi e
    obtain ⟨Mi, h1, h2⟩ := maxO_of (i := i) hM
    have := vick hs hM (hP k hk) h1 ho hi e
    omega
  · cases e : σ i with
    | none =>
      have h1 := put (k := k) hs e hi hk
      have := (hP k hk).le _ h1.1
      rw [h1.2] at this
      show w i k - (P k - M) ≤ 0
      omega
    | some a =>
      have ha := hs.lot i a hi e
      obtain ⟨Mi, h1, h2⟩ := maxO_of (i := i) hM
      have h3 := vick hs hM (hP a ha) h1 ho hi e
      obtain ⟨ρ, r1, r2, r3⟩ := h1.at_
      have h4 := put (k := k) r1 r2 hi hk
      have h5 := (hP k hk).le _ h4.1
      rw [h4.2] at h5
      show w i k - (P k - M) ≤ w i a - (P a - M)
      omega
/-- nobody gains by a lie -/
theorem truth {n m i : Nat} {w w' : Nat → Nat → Int} {M M' : Int} {σ σ' : Nat → Option Nat} {P P' : Nat → Int} (hi : i < n) (hw : ∀ k, k < n → k ≠ i → ∀ j, w' k j = w k j)
    (hM : IsMax n m w M) (hP : ∀ k, k < m → IsMax n (m + 1) (dup m k w) (P k)) (hs : Val n m σ) (ho : wt n w σ = M)
    (hM' : IsMax n m w' M') (hP' : ∀ k, k < m → IsMax n (m + 1) (dup m k w') (P' k)) (hs' : Val n m σ') (ho' : wt n w' σ' = M') :
    gt (fun i j => w i j - (P' j - M')) i (σ' i) ≤ gt (fun i j => w i j - (P j - M)) i (σ i) := by
  have hf := fair_least hM hP hs ho
  have h0 := hf.gain hi
  cases e' : σ' i with
  | none => exact h0
  | some b =>
    have hb := hs'.lot i b hi e'
    obtain ⟨Mi, h1, h2⟩ := maxO_of (i := i) hM
    have h1' : IsMaxO n m i w' Mi := by
      have eq : ∀ τ : Nat → Option Nat, τ i = none → wt n w' τ = wt n w τ := by
        intro τ h
        unfold wt
        refine sumN_congr fun k hk => ?_
        by_cases hki : k = i
        · rw [hki, h]; rfl
        · cases τ k with
          | none => rfl
          | some j => exact hw k hk hki j
      obtain ⟨ρ, r1, r2, r3⟩ := h1.at_
      exact ⟨⟨ρ, r1, r2, by rw [eq ρ r2]; exact r3⟩, fun τ t1 t2 => by rw [eq τ t2]; exact h1.le τ t1 t2⟩
    have v := vick hs' hM' (hP' b hb) h1' ho' hi e'
    -- what the others have in the award of the lie
    have d := drp_wt (n := n) w σ' hi
    have d' := drp_wt (n := n) w' σ' hi
    have eqd : wt n w' (drp i σ') = wt n w (drp i σ') := by
      unfold wt
      refine sumN_congr fun k hk => ?_
      by_cases hki : k = i
      · rw [hki]; simp [drp, gt]
      · cases drp i σ' k with
        | none => rfl
        | some j => exact hw k hk hki j
    have le := hM.le σ' hs'
    rw [e'] at d d'
    simp only [gt] at d d'
    have main : M' - w' i b + w i b ≤ M := by omega
    have hy : w i b - (P' b - M') ≤ M - Mi := by omega
    cases e : σ i with
    | none =>
      have : M ≤ Mi := by rw [← ho]; exact h1.le σ hs e
      show w i b - (P' b - M') ≤ 0
      omega
    | some a =>
      have v2 := vick hs hM (hP a (hs.lot i a hi e)) h1 ho hi e
      show w i b - (P' b - M') ≤ w i a - (P a - M)
      omega
/-- another lot is worth at most what somebody would give for it -/
theorem price_le {n m k : Nat} {w : Nat → Nat → Int} {M Mk V : Int} (hM : IsMax n m w M) (hMk : IsMax n (m + 1) (dup m k w) Mk) (h0 : 0 ≤ V) (hV : ∀ i, i < n → w i k ≤ V) : Mk - M ≤ V := by
  obtain ⟨τ, ht, hτ⟩ := hMk.at_
  have clean : ∀ ρ, Val n (m + 1) ρ → (∀ i, i < n → ρ i ≠ some m) → wt n (dup m k w) ρ ≤ M := by
    intro ρ h hno
    have hv : Val n m ρ := ⟨fun i j hi e => by
      have := h.lot i j hi e
      have : j ≠ m := fun e2 => hno i hi (e2 ▸ e)
      omega, h.inj⟩
    have := hM.le ρ hv
    have e : wt n (dup m k w) ρ = wt n w ρ := by
      unfold wt
      refine sumN_congr fun i hi => ?_
      cases e : ρ i with
      | none => rfl
      | some j => exact dup_lt i j (hv.lot i j hi e)
    omega
  by_cases h : ∃ i, i < n ∧ τ i = some m
  · obtain ⟨i, hi, e⟩ := h
    have d := drp_wt (dup m k w) τ hi
    rw [e] at d
    have h1 := clean (drp i τ) (drp_val ht) (fun j hj e2 => by
      unfold drp at e2
      split at e2
      · cases e2
      · rename_i hne; exact hne (ht.inj j i m hj hi e2 e))
    have h2 := hV i hi
    have h3 : gt (dup m k w) i (some m) = w i k := by show dup m k w i m = _; unfold dup; rw [if_pos rfl]
    omega
  · have := clean τ ht (fun i hi e => h ⟨i, hi, e⟩)
    omega
/-- with a greater reserve of a lot (so much less above it) no price is less: d is by how much the reserve of lot c grows -/
theorem more_reserve {n m k c : Nat} {w w' : Nat → Nat → Int} {d M Mk N Nk : Int} (hd : 0 ≤ d) (hw : ∀ i j, w' i j = w i j - (if j = c then d else 0))
    (hM : IsMax n m w M) (hMk : IsMax n (m + 1) (dup m k w) Mk) (hN : IsMax n m w' N) (hNk : IsMax n (m + 1) (dup m k w') Nk) : Mk - M ≤ Nk - N + (if k = c then d else 0) := by
  obtain ⟨τ, ht, hτ⟩ := hMk.at_
  obtain ⟨σ, hs, hσ⟩ := hN.at_
  have e := x_sum w (dup m k w) hs ht (fun i j hj => dup_lt i j hj)
  have h1 := hNk.le _ (xs_val hs ht)
  have h2 := hM.le _ (xt_val hs ht)
  -- how many get lot c
  have cost : ∀ (m' : Nat) (w0 w1 : Nat → Nat → Int) (f : Nat → Int) (ρ : Nat → Option Nat), (∀ i j, w1 i j = w0 i j - f j) → wt n w0 ρ = wt n w1 ρ + sumN n (fun i => gt (fun _ j => f j) i (ρ i)) := by
    intro m' w0 w1 f ρ h
    unfold wt
    rw [← sumN_add]
    refine sumN_congr fun i _ => ?_
    cases ρ i with
    | none => rfl
    | some j => show w0 i j = w1 i j + f j; rw [h]; omega
  have c1 := cost m w w' (fun j => if j = c then d else 0) σ (fun i j => hw i j)
  have c2 := cost (m + 1) (dup m k w) (dup m k w') (fun j => if (if j = m then k else j) = c then d else 0) (xs n m σ τ) (fun i j => by unfold dup; rw [hw])
  -- the copy costs at most one more
  have c3 : sumN n (fun i => gt (fun _ j => if (if j = m then k else j) = c then d else 0) i (xs n m σ τ i)) ≤ sumN n (fun i => gt (fun _ j => if j = c then d else 0) i (σ i)) + (if k = c then d else 0) := by
    have hx := xs_val hs ht
    -- over lots
    have i1 := sum_img_eq (n := n) (m := m) (σ := σ) (fun j => if (∃ i, i < n ∧ σ i = some j) then (if j = c then d else 0) else 0) hs (fun j hj hno => by
      rw [if_neg]; rintro ⟨i, hi, e⟩; exact hno i hi e)
    have i2 : sumN n (fun i => gt (fun _ j => if (∃ i, i < n ∧ σ i = some j) then (if j = c then d else 0) else 0) i (σ i)) = sumN n (fun i => gt (fun _ j => if j = c then d else 0) i (σ i)) := sumN_congr fun i hi => by
      cases e : σ i with
      | none => rfl
      | some j => exact if_pos ⟨i, hi, e⟩
    have i3 := sum_img (n := n) (m := m + 1) (σ := xs n m σ τ) (fun j => if j = m then (if k = c then d else 0) else if (∃ i, i < n ∧ σ i = some j) then (if j = c then d else 0) else 0) hx (fun j hj => by
      repeat' split
      all_goals omega)
    have i4 : sumN n (fun i => gt (fun _ j => if j = m then (if k = c then d else 0) else if (∃ i, i < n ∧ σ i = some j) then (if j = c then d else 0) else 0) i (xs n m σ τ i)) = sumN n (fun i => gt (fun _ j => if (if j = m then k else j) = c then d else 0) i (xs n m σ τ i)) := sumN_congr fun i hi => by
      cases e : xs n m σ τ i with
      | none => rfl
      | some j =>
        show (if j = m then _ else _) = (if (if j = m then k else j) = c then d else 0)
        by_cases hj : j = m
        · rw [if_pos hj, if_pos hj]
        · have := hx.lot i j hi e
          rw [if_neg hj, if_neg hj, if_pos (xs_img hi (by omega) e)]
    rw [i4, sumN] at i3
    rw [if_pos rfl] at i3
    rw [sumN_congr (n := m) (f := fun j => if j = m then (if k = c then d else 0) else if (∃ i, i < n ∧ σ i = some j) then (if j = c then d else 0) else 0) (g := fun j => if (∃ i, i < n ∧ σ i = some j) then (if j = c then d else 0) else 0) (fun j hj => by rw [if_neg (by omega)])] at i3
    omega
  omega
end Am
namespace Am

theorem sumN_left (n : Nat) (f : Nat → Int) : sumN (n + 1) f = f 0 + sumN n (fun i => f (i + 1)) := by
  induction n with
  | zero => simp [sumN]
  | succ n ih => rw [sumN, ih, sumN]; omega
theorem IsMax.congr {n m : Nat} {w w' : Nat → Nat → Int} {M : Int} (h : IsMax n m w M) (e : ∀ i j, i < n → j < m → w i j = w' i j) : IsMax n m w' M := by
  have key : ∀ σ, Val n m σ → wt n w' σ = wt n w σ := fun σ hs => sumN_congr fun i hi => by
    cases hσ : σ i with
    | none => rfl
    | some j => exact (e i j hi (hs.lot i j hi hσ)).symm
  obtain ⟨σ, h1, h2⟩ := h.at_
  exact ⟨⟨σ, h1, (key σ h1).trans h2⟩, fun σ hs => by rw [key σ hs]; exact h.le σ hs⟩
/-- what a list says: who gets which lot -/
def sig (to : List Int) : Nat → Option Nat := fun i => match to[i]? with
  | some k => if 0 ≤ k then some k.toNat else none
  | none => none
theorem sig_some {to : List Int} {i j : Nat} : sig to i = some j ↔ to[i]? = some (j : Int) := by
  unfold sig
  cases h : to[i]? with
  | none => simp
  | some k =>
    by_cases h0 : 0 ≤ k
    · simp only [if_pos h0, Option.some.injEq]; omega
    · simp only [if_neg h0, Option.some.injEq]
      constructor
      · intro h; cases h
      · intro h; omega
/-- a list of lots, none twice -/
structure OkL (m : Nat) (so : List Int) : Prop where
  rng : ∀ k ∈ so, -1 ≤ k ∧ k < m
  nd : (so.filter (fun k => decide (0 ≤ k))).Nodup
theorem OkL.nil (m : Nat) : OkL m [] := ⟨fun _ h => (by cases h), by simp⟩
theorem OkL.snoc {m : Nat} {so : List Int} {k : Int} : OkL m (so ++ [k]) ↔ OkL m so ∧ (-1 ≤ k ∧ k < m) ∧ (0 ≤ k → k ∉ so) := by
  constructor
  · intro ⟨h1, h2⟩
    rw [List.filter_append] at h2
    have h3 := List.nodup_append.1 h2
    refine ⟨⟨fun q hq => h1 q (List.mem_append_left _ hq), h3.1⟩, h1 k (by simp), fun h0 hk => ?_⟩
    exact h3.2.2 k (List.mem_filter.2 ⟨hk, by simpa using h0⟩) k (by simp [h0]) rfl
  · intro ⟨⟨h1, h2⟩, h3, h4⟩
    refine ⟨fun q hq => ?_, ?_⟩
    · rcases List.mem_append.1 hq with e | e
      · exact h1 q e
      · simp at e; rw [e]; exact h3
    · rw [List.filter_append]
      by_cases h0 : 0 ≤ k
      · rw [show [k].filter (fun k => decide (0 ≤ k)) = [k] by simp [h0]]
        refine List.nodup_append.2 ⟨h2, by simp, fun a ha b hb => ?_⟩
        simp at hb; rw [hb]
        exact fun e => h4 h0 (e ▸ (List.mem_filter.1 ha).1)
      · rw [show [k].filter (fun k => decide (0 ≤ k)) = [] by simp [h0], List.append_nil]; exact h2
theorem OkL.pre {m : Nat} {a b : List Int} (h : OkL m (a ++ b)) : OkL m a :=
  ⟨fun k hk => h.rng k (List.mem_append_left _ hk), by have := h.nd; rw [List.filter_append] at this; exact (List.nodup_append.1 this).1⟩
theorem ok_inj {m : Nat} : ∀ {to : List Int}, OkL m to → ∀ {i i' : Nat} {k : Int}, to[i]? = some k → to[i']? = some k → 0 ≤ k → i = i'
  | [], _, i, i', k, h, _, _ => by simp at h
  | a :: to, hk, i, i', k, h, h', h0 => by
    have hs : OkL m to ∧ (0 ≤ a → a ∉ to) := by
      refine ⟨⟨fun q hq => hk.rng q (List.mem_cons_of_mem _ hq), ?_⟩, fun h0 hm => ?_⟩
      · have := hk.nd; rw [List.filter_cons] at this
        split at this
        · exact (List.nodup_cons.1 this).2
        · exact this
      · have := hk.nd; rw [List.filter_cons, if_pos (by simpa using h0)] at this
        exact (List.nodup_cons.1 this).1 (List.mem_filter.2 ⟨hm, by simpa using h0⟩)
    cases i with
    | zero =>
      cases i' with
      | zero => rfl
      | succ i' =>
        simp at h h'
        rw [h] at hs
        exact absurd (List.mem_of_getElem? h') (hs.2 h0)
    | succ i =>
      cases i' with
      | zero =>
        simp at h h'
        rw [h'] at hs
        exact absurd (List.mem_of_getElem? h) (hs.2 h0)
      | succ i' =>
        simp at h h'
        rw [ok_inj hs.1 h h' h0]
theorem ok_of {m : Nat} {to : List Int} (h1 : ∀ k ∈ to, -1 ≤ k ∧ k < m) (h2 : ∀ (i i' : Nat) (k : Int), to[i]? = some k → to[i']? = some k → 0 ≤ k → i = i') : OkL m to := by
  refine ⟨h1, ?_⟩
  clear h1
  induction to with
  | nil => simp
  | cons a to ih =>
    have hi := ih (fun i i' k h h' h0 => by have := h2 (i + 1) (i' + 1) k (by simpa using h) (by simpa using h') h0; omega)
    rw [List.filter_cons]
    by_cases h0 : 0 ≤ a
    · rw [if_pos (by simpa using h0)]
      refine List.nodup_cons.2 ⟨fun hm => ?_, hi⟩
      obtain ⟨i, hi'⟩ := List.mem_iff_getElem?.1 (List.mem_filter.1 hm).1
      have := h2 0 (i + 1) a (by simp) (by simpa using hi') h0
      omega
    · rw [if_neg (by simpa using h0)]; exact hi
theorem sig_val {m : Nat} {to : List Int} (h : OkL m to) : Val to.length m (sig to) := by
  refine ⟨fun i j _ e => ?_, fun i i' j _ _ e e' => ?_⟩
  · have := h.rng _ (List.mem_of_getElem? (sig_some.1 e)); omega
  · exact ok_inj h (sig_some.1 e) (sig_some.1 e') (by omega)
/-- the list of an award -/
def lst (n : Nat) (σ : Nat → Option Nat) : List Int := (List.range n).map (fun i => match σ i with | none => -1 | some j => (j : Int))
theorem lst_len (n : Nat) (σ : Nat → Option Nat) : (lst n σ).length = n := by simp [lst]
theorem lst_get {n : Nat} {σ : Nat → Option Nat} {i : Nat} (hi : i < n) : (lst n σ)[i]? = some (match σ i with | none => -1 | some j => (j : Int)) := by
  unfold lst; rw [List.getElem?_map, List.getElem?_range hi]; rfl
theorem lst_sig {n : Nat} {σ : Nat → Option Nat} {i : Nat} (hi : i < n) : sig (lst n σ) i = σ i := by
  unfold sig; rw [lst_get hi]
  cases h : σ i with
  | none => rfl
  | some j => simp only; rw [if_pos (by omega)]; simp
theorem lst_ok {n m : Nat} {σ : Nat → Option Nat} (h : Val n m σ) : OkL m (lst n σ) := by
  refine ok_of (fun k hk => ?_) (fun i i' k hi hi' h0 => ?_)
  · obtain ⟨i, hi, e⟩ := List.mem_map.1 hk
    have hin := List.mem_range.1 hi
    cases hs : σ i with
    | none => rw [hs] at e; simp only at e; omega
    | some j => rw [hs] at e; simp only at e; have := h.lot i j hin hs; omega
  · have hl := (List.getElem?_eq_some_iff.1 hi).1
    have hl' := (List.getElem?_eq_some_iff.1 hi').1
    rw [lst_len] at hl hl'
    rw [lst_get hl] at hi; rw [lst_get hl'] at hi'
    cases hs : σ i with
    | none => rw [hs] at hi; simp at hi; omega
    | some j =>
      cases hs' : σ i' with
      | none => rw [hs'] at hi'; simp at hi'; omega
      | some j' =>
        rw [hs] at hi; rw [hs'] at hi'
        simp at hi hi'
        have : j = j' := by omega
        exact h.inj i i' j hl hl' hs (this ▸ hs')
theorem wt_lst {n : Nat} (w : Nat → Nat → Int) (σ : Nat → Option Nat) : wt n w (sig (lst n σ)) = wt n w σ := sumN_congr fun i hi => by rw [lst_sig hi]

/-! ### worth -/
def rv (res : List Int) (j : Nat) : Int := res.getD j 0
def vv (rows : List (List Int)) (i j : Nat) : Int := (rows.getD i []).getD j 0
def wv (res : List Int) (rows : List (List Int)) (i j : Nat) : Int := vv rows i j - rv res j
def sumR (res : List Int) : Int := sumN res.length (rv res)
/-- the program's: lots that nobody gets, then what is given -/
def wFree (to : List Int) : List Int → Int → Int → Int
  | [], _, n => n
  | r :: l, k, n => wFree to l (k + 1) (if to.contains k then n else n + r)
def wGot (rows : List (List Int)) : List Int → Nat → Int → Int
  | [], _, n => n
  | k :: t, i, n => wGot rows t (i + 1) (if 0 ≤ k then n + vv rows i k.toNat else n)
theorem wFree_drop (to res : List Int) (k : Nat) (r n : Int) (h : res[k]? = some r) : wFree to (res.drop k) k n = wFree to (res.drop (k + 1)) ((k + 1 : Nat) : Int) (if to.contains (k : Int) then n else n + r) := by
  obtain ⟨h1, h2⟩ := List.getElem?_eq_some_iff.1 h
  rw [List.drop_eq_getElem_cons h1, h2, wFree]; rfl
theorem wGot_drop (rows : List (List Int)) (to : List Int) (i : Nat) (k n : Int) (h : to[i]? = some k) : wGot rows (to.drop i) i n = wGot rows (to.drop (i + 1)) (i + 1) (if 0 ≤ k then n + vv rows i k.toNat else n) := by
  obtain ⟨h1, h2⟩ := List.getElem?_eq_some_iff.1 h
  rw [List.drop_eq_getElem_cons h1, h2, wGot]
def worthP (res : List Int) (rows : List (List Int)) (to : List Int) : Int := wGot rows to 0 (wFree to res 0 0)
theorem wFree_sum (to : List Int) : ∀ (l : List Int) (k : Nat) (n : Int), wFree to l k n = n + sumN l.length (fun j => if to.contains ((k + j : Nat) : Int) then 0 else l.getD j 0)
  | [], k, n => by simp [wFree, sumN]
  | r :: l, k, n => by
    rw [wFree, show ((k : Int) + 1) = ((k + 1 : Nat) : Int) from rfl, wFree_sum to l (k + 1), List.length_cons, sumN_left]
    rw [sumN_congr (n := l.length) (f := fun i => if to.contains ((k + (i + 1) : Nat) : Int) then (0 : Int) else (r :: l).getD (i + 1) 0) (g := fun j => if to.contains ((k + 1 + j : Nat) : Int) then 0 else l.getD j 0) (fun i _ => by rw [show k + (i + 1) = k + 1 + i by omega]; rfl)]
    simp only [Nat.add_zero, List.getD_cons_zero]
    split <;> omega
theorem wGot_sum (rows : List (List Int)) : ∀ (t : List Int) (i : Nat) (n : Int), wGot rows t i n = n + sumN t.length (fun k => gt (fun a b => vv rows (i + a) b) k (sig t k))
  | [], i, n => by simp [wGot, sumN]
  | k :: t, i, n => by
    rw [wGot, wGot_sum rows t (i + 1), List.length_cons, sumN_left]
    rw [sumN_congr (n := t.length) (f := fun j => gt (fun a b => vv rows (i + a) b) (j + 1) (sig (k :: t) (j + 1))) (g := fun j => gt (fun a b => vv rows (i + 1 + a) b) j (sig t j)) (fun j _ => by
      rw [show sig (k :: t) (j + 1) = sig t j from rfl]
      cases sig t j with
      | none => rfl
      | some b => show vv rows (i + (j + 1)) b = vv rows (i + 1 + j) b; rw [show i + (j + 1) = i + 1 + j by omega])]
    have : gt (fun a b => vv rows (i + a) b) 0 (sig (k :: t) 0) = if 0 ≤ k then vv rows i k.toNat else 0 := by
      unfold sig
      by_cases h : 0 ≤ k
      · simp [h, gt]
      · simp [h, gt]
    rw [this]
    split <;> omega
theorem sold_iff {to : List Int} {j : Nat} : (to.contains (j : Int) = true) ↔ ∃ i, i < to.length ∧ sig to i = some j := by
  rw [List.contains_iff_mem]
  constructor
  · intro h
    obtain ⟨i, hi⟩ := List.mem_iff_getElem?.1 h
    exact ⟨i, (List.getElem?_eq_some_iff.1 hi).1, sig_some.2 hi⟩
  · rintro ⟨i, _, e⟩
    exact List.mem_of_getElem? (sig_some.1 e)
theorem worthP_eq {res : List Int} {rows : List (List Int)} {to : List Int} (h : OkL res.length to) : worthP res rows to = sumR res + wt to.length (wv res rows) (sig to) := by
  have hv := sig_val h
  unfold worthP
  rw [wGot_sum, show wFree to res 0 0 = wFree to res ((0 : Nat) : Int) 0 from rfl, wFree_sum]
  simp only [Nat.zero_add]
  have e := sum_img_eq (fun j => if to.contains (j : Int) then rv res j else 0) hv (fun j _ hno => by
    rw [if_neg]; intro hc
    obtain ⟨i, hi, e⟩ := (sold_iff).1 hc
    exact hno i hi e)
  have e2 : sumR res = sumN res.length (fun j => if to.contains (j : Int) then 0 else res.getD j 0) + sumN res.length (fun j => if to.contains (j : Int) then rv res j else 0) := by
    rw [← sumN_add]
    refine sumN_congr fun j _ => ?_
    split
    · omega
    · show res.getD j 0 = _; omega
  have e3 : sumN to.length (fun k => gt (fun a b => vv rows a b) k (sig to k)) = wt to.length (wv res rows) (sig to) + sumN to.length (fun i => gt (fun _ j => if to.contains (j : Int) then rv res j else 0) i (sig to i)) := by
    unfold wt
    rw [← sumN_add]
    refine sumN_congr fun i hi => ?_
    cases hs : sig to i with
    | none => rfl
    | some j =>
      show vv rows i j = wv res rows i j + (if to.contains (j : Int) then rv res j else 0)
      rw [if_pos ((sold_iff).2 ⟨i, hi, hs⟩)]
      unfold wv; omega
  omega
/-- the reference's: lot by lot -/
def seekN : List Int → Int → Int → Int
  | [], _, _ => -1
  | x :: l, n, i => if x = n then i else seekN l n (i + 1)
theorem seekN_spec : ∀ (l : List Int) (n : Int) (i : Nat), (seekN l n i = -1 ∧ n ∉ l) ∨ ∃ k, l[k]? = some n ∧ seekN l n i = (i + k : Nat)
  | [], n, i => .inl ⟨rfl, by simp⟩
  | x :: l, n, i => by
    rw [seekN]
    by_cases h : x = n
    · rw [if_pos h]; exact .inr ⟨0, by simp [h], by simp⟩
    · rw [if_neg h, show ((i : Int) + 1) = ((i + 1 : Nat) : Int) from rfl]
      rcases seekN_spec l n (i + 1) with ⟨a, b⟩ | ⟨k, a, b⟩
      · exact .inl ⟨a, by simp [b]; exact fun e => h e.symm⟩
      · exact .inr ⟨k + 1, by simpa using a, by rw [b]; omega⟩
def wLot (rows : List (List Int)) (to : List Int) : List Int → Nat → Int → Int
  | [], _, n => n
  | r :: l, j, n => wLot rows to l (j + 1) (if 0 ≤ seekN to j 0 then n + vv rows (seekN to j 0).toNat j else n + r)
theorem wLot_drop (rows : List (List Int)) (to res : List Int) (j : Nat) (r n : Int) (h : res[j]? = some r) : wLot rows to (res.drop j) j n = wLot rows to (res.drop (j + 1)) (j + 1) (if 0 ≤ seekN to j 0 then n + vv rows (seekN to j 0).toNat j else n + r) := by
  obtain ⟨h1, h2⟩ := List.getElem?_eq_some_iff.1 h
  rw [List.drop_eq_getElem_cons h1, h2, wLot]
def worthR (res : List Int) (rows : List (List Int)) (to : List Int) : Int := wLot rows to res 0 0
theorem wLot_sum (rows : List (List Int)) (to : List Int) : ∀ (l : List Int) (j : Nat) (n : Int), wLot rows to l j n = n + sumN l.length (fun k => if 0 ≤ seekN to ((j + k : Nat) : Int) 0 then vv rows (seekN to ((j + k : Nat) : Int) 0).toNat (j + k) else l.getD k 0)
  | [], j, n => by simp [wLot, sumN]
  | r :: l, j, n => by
    rw [wLot, wLot_sum rows to l (j + 1), List.length_cons, sumN_left]
    rw [sumN_congr (n := l.length) (f := fun k => if 0 ≤ seekN to ((j + (k + 1) : Nat) : Int) 0 then vv rows (seekN to ((j + (k + 1) : Nat) : Int) 0).toNat (j + (k + 1)) else (r :: l).getD (k + 1) 0) (g := fun k => if 0 ≤ seekN to ((j + 1 + k : Nat) : Int) 0 then vv rows (seekN to ((j + 1 + k : Nat) : Int) 0).toNat (j + 1 + k) else l.getD k 0) (fun i _ => by rw [show j + (i + 1) = j + 1 + i by omega]; rfl)]
    simp only [Nat.add_zero, List.getD_cons_zero]
    split <;> omega
theorem worthR_eq {res : List Int} {rows : List (List Int)} {to : List Int} (h : OkL res.length to) : worthR res rows to = sumR res + wt to.length (wv res rows) (sig to) := by
  have hv := sig_val h
  unfold worthR
  rw [wLot_sum]
  simp only [Nat.zero_add]
  have e := sum_img_eq (fun j => if 0 ≤ seekN to (j : Int) 0 then wv res rows (seekN to (j : Int) 0).toNat j else 0) hv (fun j _ hno => by
    rcases seekN_spec to j 0 with ⟨a, _⟩ | ⟨k, a, b⟩
    · rw [show seekN to (j : Int) 0 = seekN to (j : Int) ((0 : Nat) : Int) from rfl, a, if_neg (by omega)]
    · exact absurd (sig_some.2 a) (hno k (List.getElem?_eq_some_iff.1 a).1))
  have e3 : wt to.length (wv res rows) (sig to) = sumN to.length (fun i => gt (fun _ j => if 0 ≤ seekN to (j : Int) 0 then wv res rows (seekN to (j : Int) 0).toNat j else 0) i (sig to i)) := by
    refine sumN_congr fun i hi => ?_
    cases hs : sig to i with
    | none => rfl
    | some j =>
      have hget := sig_some.1 hs
      show wv res rows i j = _
      rcases seekN_spec to j 0 with ⟨_, b⟩ | ⟨k, a, b⟩
      · exact absurd (List.mem_of_getElem? hget) b
      · have hk := ok_inj h a hget (by omega)
        show _ = (if 0 ≤ seekN to (j : Int) ((0 : Nat) : Int) then wv res rows (seekN to (j : Int) ((0 : Nat) : Int)).toNat j else 0)
        rw [b, if_pos (by omega), hk]; simp
  rw [e3, e, sumR, ← sumN_add, Int.zero_add]
  refine sumN_congr fun j _ => ?_
  split
  · unfold wv; omega
  · show res.getD j 0 = rv res j + 0; unfold rv; omega
end Am
