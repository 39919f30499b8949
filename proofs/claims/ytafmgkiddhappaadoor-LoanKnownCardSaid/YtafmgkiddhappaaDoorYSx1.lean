/- Clearing what is left of a slice; arrays in registers. Conditions: none; a library of lemmas. -/
import Derived.Test.YtafmgkiddhappaaDoorZSb
namespace Go.Sx
open Go.RowKit

section
variable {C : Cx} {Q : Exit → Act → World → Prop} {L : Regs} {O S : List Fact} {ops : Array Oper} {rest : List Oper} {ty : TypeId} {pos : String} {aft : Array Edge} {dst : Option Tmp} {gu : Option (Nat × Bool)} {t : TypeId} {x y : Operand}
theorem zero_one (z : Value) (n : Nat) : Builtin.zeroCells #[z] n = (List.replicate n z).toArray := by
  refine Array.ext (by simp [Builtin.zeroCells]) fun i h1 h2 => ?_
  simp [Builtin.zeroCells, Nat.mod_one]
/-- An element of an array that lies in a register, a cell each. -/
theorem y_indexA {e n : Nat} {i : Int} {k : IntKind} {cs : List Value} {v : Value} (ht : C.P.underlying t = some (.array n e)) (hs : ∀ w, (sizeOf e).run C.P w = .ok 1 w) (ha : ∀ w, (isAgg e).run C.P w = .ok false w) (hx : val L x = some (.agg cs.toArray)) (hy : val L y = some (.int k i)) (hi : 0 ≤ i ∧ i < n) (hv : cs[i.toNat]? = some v) :
    Yi C ⟨dst, .index t x y, ty, pos, aft, gu⟩ L O S v :=
  yi_val (by intro c h; cases h) fun a w hr _ => by
    simp [execOp, hr.val hx, hr.val hy, Instr.index, asIntOf, run_underlying ht, hi, part, hs, ha, hv]
/-- The elements behind the first i are cleared, and are known no longer. -/
theorem oj_clearCut {α : Type} {e c i : Nat} {enc : α → List Value} {A : Option Addr} {xs : List α} {z : Value} {O' : List Fact} (hu : C.P.underlying t = some (.slice e)) (hz : ∀ w, (zeroValue e).run C.P w = .ok z w) (hzc : z.cells = #[z]) (hone : z.oneCell' = true) (he : ∀ x, (enc x).length = 1)
    (hx : val L x = some (.slice (subA A c i 1) ((xs.take xs.length).drop i).length (c - i))) (hi : i ≤ xs.length) (hA : A = none → c = 0) [hup : UpdOw O A e 1 enc c xs (ow e 1 enc A c (xs.take i)) O'] (k' : OJ C ops Q rest L O' S) :
    OJ C ops Q (⟨none, .call ⟨.builtin .clear, #[x], #[t]⟩, ty, pos, aft, none⟩ :: rest) L O S := by
  intro a w hr hp
  unfold wpListIn
  rw [if_pos (by simp [Region.wanted])]
  refine ⟨fun _ _ => trivial, ?_⟩
  rw [Oper.semAt_eq _ _ _ (by intro c h; cases h)]
  have hP := (hp.own _ hup.rep.mem).1
  have hlen : ((xs.take xs.length).drop i).length = xs.length - i := by simp
  rw [hlen] at hx
  have hcut : ∀ w' : World, (ow e 1 enc A c (xs.take i ++ xs.drop i)).P w' → (ow e 1 enc A c (xs.take i)).P w' := fun w' h => ow_cut he (fun hn => by
    have hcl : xs.length ≤ c := by
      rcases (show w.ownsRow 0 e 1 (.slice A xs.length c) xs.length (xs.flatMap enc) from hP).2 with ⟨h3, _⟩ | ⟨g, cap, cur, hv, _, _, h5, _⟩
      · injection h3 with _ h4 _; omega
      · injection hv with _ _ h6; omega
    have := hA hn
    exact ⟨List.eq_nil_of_length_eq_zero (by simp; omega), this⟩) h
  by_cases hn : xs.length - i = 0
  · have hrun : (execOp a.eval ⟨none, .call ⟨.builtin .clear, #[x], #[t]⟩, ty, pos, aft, none⟩).run C.P w = .ok (.value (.tuple #[])) w := by
      rw [hn] at hx
      cases hA2 : subA A c i 1 <;> simp [execOp, resolve, invoke, builtin, Builtin.clear_, hr.val hx, run_underlying hu, hA2]
    rw [hrun]
    refine k' _ w hr ?_
    have he1 : xs.take i = xs := List.take_of_length_le (by omega)
    refine hp.write hup.rep rfl rfl rfl (Nat.le_refl _) (fun _ _ _ => rfl) (by rw [he1]; exact hP) (fun b hb => ?_)
    rw [he1] at hb
    exact ⟨((hp.own _ hup.rep.mem).2 b hb).1, .inl hb⟩
  · have hP2 : w.ownsRow 0 e 1 (.slice A xs.length c) xs.length (xs.flatMap enc) := hP
    rcases hP2.2 with ⟨h3, _⟩ | ⟨g, cap, cur, hv, h3, h4, h5, h6, h7, h8⟩
    · injection h3 with _ h4 _; omega
    · injection hv with hA1 _ hcap
      subst hA1
      subst hcap
      have hsub : subA (some ⟨g, 0, none⟩) c i 1 = some ⟨g, i, none⟩ := by
        unfold subA
        rw [if_neg (by omega)]
        simp [addr_add]
      rw [hsub] at hx
      have hcur : w.heap[g]? = some (.cells cur.toList.toArray e (0, 0)) := by rw [h4]
      obtain ⟨w', cs2, g1, g2, g3, g4, g5, g6, g7, g8, g9⟩ := run_storeCells C.P (List.replicate (xs.length - i) z) w g i 0 e cur.toList hcur (by simp [hone]) (by simp only [List.length_replicate, Array.length_toList]; omega)
      have hrun : (execOp a.eval ⟨none, .call ⟨.builtin .clear, #[x], #[t]⟩, ty, pos, aft, none⟩).run C.P w = .ok (.value (.tuple #[])) w' := by
        have hnz : ¬ xs.length - i = 0 := hn
        obtain ⟨m, hm⟩ : ∃ m, xs.length - i = m + 1 := ⟨xs.length - i - 1, by omega⟩
        have g1' : (storeCells ⟨g, i, none⟩ (List.replicate (m + 1) z) 0).run C.P w = .ok () w' := by rw [← hm]; exact g1
        rw [hm] at hx
        simp [execOp, resolve, invoke, builtin, Builtin.clear_, hr.val hx, run_underlying hu, hz, hzc, zero_one, g1']
      rw [hrun]
      refine k' _ w' hr ?_
      have hcs : (xs.take i).flatMap enc = (xs.flatMap enc).take i := by
        have h9 : xs.flatMap enc = (xs.take i).flatMap enc ++ (xs.drop i).flatMap enc := by rw [← List.flatMap_append, List.take_append_drop]
        have h10 : ((xs.take i).flatMap enc).length = i := by rw [flatMap_len enc 1 he, List.length_take]; omega
        rw [h9, List.take_append_of_le_length (Nat.le_of_eq h10.symm)]
        exact (List.take_of_length_le (Nat.le_of_eq h10)).symm
      have hli : (xs.take i).length = i := by simp; omega
      have hnew : w'.ownsRow 0 e 1 (.slice (some ⟨g, 0, none⟩) (xs.take i).length c) (xs.take i).length ((xs.take i).flatMap enc) := by
        refine ⟨by rw [flatMap_len enc 1 he], .inr ⟨g, c, cs2.toArray, rfl, h3, g2, by rw [hli]; omega, h6, by simp only [List.size_toArray]; rw [g4]; simpa using h7, ?_⟩⟩
        rw [hcs, ← h8, hli]
        refine List.ext_getElem? fun j => ?_
        simp only [List.getElem?_take, Nat.mul_one]
        by_cases hj : j < i
        · rw [if_pos hj, if_pos hj, if_pos (by omega), g3 j, if_neg (by omega)]
        · rw [if_neg hj, if_neg hj]
      refine hp.write hup.rep g6 g7 g8 (by omega) (fun c1 _ hc1 => g5 c1 (fun e => hc1 (by rw [e]; rfl))) hnew (fun c1 hc1 => ⟨?_, .inl hc1⟩)
      have h9 : some g = some c1 := hc1
      injection h9 with h9
      rw [g9, ← h9]
      exact (Array.getElem?_eq_some_iff.1 h4).1
/-- An element's place in a slice that is one block: at a number that is known. -/
theorem y_ixL {s e n b N c : Nat} {i : Int} {k : IntKind} (k' : Nat) (hu : C.P.underlying s = some (.slice e)) (hs : ∀ w, (sizeOf e).run C.P w = .ok n w) (hx : val L x = some (.slice (some ⟨b, 0, none⟩) N c)) (hy : val L y = some (.int k i)) (hi : 0 ≤ i ∧ i < N) (hk : i.toNat * n = k') :
    Yi C ⟨dst, .indexAddr s x y, ty, pos, aft, gu⟩ L O S (.pointer (some ⟨b, k', none⟩)) := by
  have h := y_ix (C := C) (O := O) (S := S) (dst := dst) (ty := ty) (pos := pos) (aft := aft) (gu := gu) hu hs hx hy hi (by simp)
  have e : at_ (some (⟨b, 0, none⟩ : Addr)) (i.toNat * n) = ⟨b, k', none⟩ := by
    show (⟨b, 0, none⟩ : Addr).add (i.toNat * n) = _
    rw [addr_add, hk]; simp
  rw [e] at h
  exact h
theorem cj_condT {c : Operand} {x y : Code} {t : Bool} (hc : val L c = some (.bool t)) (ht : t = true) (h : CJ C x Q L O S) : CJ C (.cond c x y) Q L O S :=
  cj_cond hc (fun _ => h) (fun hf => by rw [ht] at hf; cases hf)
theorem cj_condF {c : Operand} {x y : Code} {t : Bool} (hc : val L c = some (.bool t)) (ht : t = false) (h : CJ C y Q L O S) : CJ C (.cond c x y) Q L O S :=
  cj_cond hc (fun hf => by rw [ht] at hf; cases hf) (fun _ => h)
/-- A slice is made, of so many zeros. -/
theorem oj_makeSliceC {e d n : Nat} {i : TypeInfo} {z : Value} (cs : List Value) (ht : C.P.underlying t = some (.slice e)) (hi : C.P.info? e = some i) (hz : i.zero = some z) (hcs : madeCells z.cells (n * z.cells.size) = cs.toArray) (hx : val L x = some (.int .i64 (n : Nat))) (hy : val L y = some (.int .i64 (n : Nat)))
    (hb : i.bytes * n ≤ 281474976710656) (h63 : n ≤ 9223372036854775807) (hcl : z.cells.size = i.size) (hdN : Nat.blt d C.N = true) (k : ∀ b, OJ C ops Q rest ((d, .slice (some ⟨b, 0, none⟩) n n) :: L) (ownB b (cellsB e cs) :: O) S) :
    OJ C ops Q (⟨some d, .makeSlice t x y, ty, pos, aft, none⟩ :: rest) L O S :=
  oj_new (by intro c h; cases h) rfl rfl hdN (cellsB e cs) (fun b => .slice (some ⟨b, 0, none⟩) n n) (fun a w hr _ => by
    have hb2 : (i.bytes : Int) * (n : Int) ≤ 281474976710656 := by
      have h0 : ((i.bytes * n : Nat) : Int) ≤ 281474976710656 := by omega
      rwa [Int.natCast_mul] at h0
    have h := run_make (P := C.P) w t e i z ht hi hz .i64 .i64 n n (by omega) (Int.le_refl _) hb2 (by omega)
    simp only [Int.toNat_natCast, ← hcl, hcs] at h
    simp only [execOp, hr.val hx, hr.val hy, Sem.run_bind, h, Result.andThen_ok]
    rfl) k
/-- What was laid as a literal, and is not handed on as one's own, is apart from what is. -/
theorem lit_apart {F : Nat → Prop} {w0 w : World} {Os R : List Fact} {b : Nat} {ob : Obj} (hp : Hp F w0 O S w) (hT : Takes O Os R) [h : HasB R b ob] {o : Fact} (ho : o ∈ Os) (hob : o.fp b) : False :=
  ((hp.ownR hT _ h.mem).2 b rfl).2 o ho hob
end
end Go.Sx
