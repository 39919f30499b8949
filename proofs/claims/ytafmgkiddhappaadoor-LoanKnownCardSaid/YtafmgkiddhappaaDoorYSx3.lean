/- A queue in a slice of one's own that is cut at its head; what is inserted into a map; facts that are frozen. Conditions: none. -/
import Derived.Test.YtafmgkiddhappaaDoorYSx2
namespace Go.Sx
open Go.RowKit
section
variable {C : Cx} {Q : Exit → Act → World → Prop} {L : Regs} {O S : List Fact} {ops : Array Oper} {rest : List Oper} {ty : TypeId} {pos : String} {aft : Array Edge} {dst : Option Tmp} {gu : Option (Nat × Bool)} {t : TypeId}
/-- The queue: elements of a cell each, from the k-th cell of a block on. -/
def qu {α : Type} (e : TypeId) (en : α → Value) (b k c : Nat) (xs : List α) : Fact where
  fp := fun i => i = b
  P := fun w => ∃ cur, w.heap[b]? = some (.cells cur e (0, 0)) ∧ k + c ≤ cur.size ∧ xs.length ≤ c ∧ (cur.toList.drop k).take xs.length = xs.map en
  stab := fun h ⟨cur, h1, h2⟩ => ⟨cur, (h b rfl).trans h1, h2⟩
class UpdQu (O : List Fact) {α : Type} (e : outParam TypeId) (en : outParam (α → Value)) (b k c : Nat) (xs : List α) (f' : Fact) (O' : outParam (List Fact)) : Prop where
  rep : Rep O (qu e en b k c xs) f' O'
instance (priority := 900) UpdQu.tail {α : Type} (f : Fact) (O O' : List Fact) (e : TypeId) (en : α → Value) (b k c : Nat) (xs : List α) (f' : Fact) [h : UpdQu O e en b k c xs f' O'] : UpdQu (f :: O) e en b k c xs f' (f :: O') := ⟨.tail _ _ _ _ _ h.rep⟩
instance (priority := 1000) UpdQu.head {α : Type} (O : List Fact) (e : TypeId) (en : α → Value) (b k c : Nat) (xs : List α) (f' : Fact) : UpdQu (qu e en b k c xs :: O) e en b k c xs f' (f' :: O) := ⟨.head _ _ _⟩
/-- A block of one's own, told in other words. -/
class UpdB1 (O : List Fact) (b : Nat) (ob : outParam Obj) (f' : Fact) (O' : outParam (List Fact)) : Prop where
  rep : Rep O (ownB b ob) f' O'
instance (priority := 900) UpdB1.tail (f : Fact) (O O' : List Fact) (b : Nat) (ob : Obj) (f' : Fact) [h : UpdB1 O b ob f' O'] : UpdB1 (f :: O) b ob f' (f :: O') := ⟨.tail _ _ _ _ _ h.rep⟩
instance (priority := 1000) UpdB1.head (O : List Fact) (b : Nat) (ob : Obj) (f' : Fact) : UpdB1 (ownB b ob :: O) b ob f' (f' :: O) := ⟨.head _ _ _⟩
theorem qu_cell {α : Type} {e : TypeId} {en : α → Value} {b k c : Nat} {xs : List α} {w : World} (h : (qu e en b k c xs).P w) {i : Nat} {x : α} (hx : xs[i]? = some x) : w.cell? ⟨b, k + i, none⟩ = some (en x) := by
  obtain ⟨cur, h1, h2, h3, h4⟩ := h
  rw [cell_of_row w b (k + i) cur e (0, 0) h1]
  have hi := (List.getElem?_eq_some_iff.1 hx).1
  have h5 : ((cur.toList.drop k).take xs.length)[i]? = some (en x) := by rw [h4, List.getElem?_map, hx]; rfl
  rw [List.getElem?_take_of_lt hi, List.getElem?_drop] at h5
  simpa using h5
theorem reads_qu {α : Type} {e : TypeId} {en : α → Value} {b k c : Nat} {xs : List α} (hm : qu e en b k c xs ∈ O) : Reads C O S 1 (fun x => [en x]) (some ⟨b, k, none⟩) xs := fun w hp _ => by
  refine ⟨⟨b, k, none⟩, rfl, fun i x j u hx hu => ?_⟩
  have hj : j = 0 := by
    have := (List.getElem?_eq_some_iff.1 hu).1
    simp at this; exact this
  subst hj
  have hu' : en x = u := by simpa using hu
  rw [addr_add, ← hu']
  have := qu_cell (hp.own _ hm).1 hx
  simpa using this
/-- A literal becomes a queue. -/
theorem cj_quOf {cd : Code} {α : Type} {e b : Nat} {cs : List Value} {O' : List Fact} (en : α → Value) (xs : List α) (hcs : xs.map en = cs) [hu : UpdB1 O b (cellsB e cs) (qu e en b 0 xs.length xs) O'] (k : CJ C cd Q L O' S) : CJ C cd Q L O S := fun a w hr hp => k a w hr (by
  have hm := (hp.own _ hu.rep.mem)
  refine hp.write hu.rep rfl rfl rfl (Nat.le_refl _) (fun _ _ _ => rfl) ⟨cs.toArray, hm.1, ?_, Nat.le_refl _, ?_⟩ (fun c hc => ⟨hm.2 c hc |>.1, .inl hc⟩)
  · subst hcs; simp
  · subst hcs
    rw [List.drop_zero]
    exact List.take_of_length_le (by simp))
/-- The head is cut off. -/
theorem cj_quCut {cd : Code} {α : Type} {e b k c : Nat} {en : α → Value} {x : α} {xs : List α} {O' : List Fact} [hu : UpdQu O e en b k c (x :: xs) (qu e en b (if c = 1 then k else k + 1) (c - 1) xs) O'] (kk : CJ C cd Q L O' S) : CJ C cd Q L O S := fun a w hr hp => kk a w hr (by
  have hm := (hp.own _ hu.rep.mem)
  refine hp.write hu.rep rfl rfl rfl (Nat.le_refl _) (fun _ _ _ => rfl) ?_ (fun c hc => ⟨hm.2 c hc |>.1, .inl hc⟩)
  obtain ⟨cur, h1, h2, h3, h4⟩ := hm.1
  simp only [List.length_cons] at h3
  refine ⟨cur, h1, ?_, by omega, ?_⟩
  · split <;> omega
  · by_cases hc : c = 1
    · have : xs = [] := List.eq_nil_of_length_eq_zero (by omega)
      subst this; simp
    · rw [if_neg hc]
      have h5 := congrArg (List.drop 1) h4
      rw [List.drop_take, List.drop_drop] at h5
      simpa using h5)
theorem subA_q (b k c : Nat) : subA (some (⟨b, k, none⟩ : Addr)) c 1 1 = some ⟨b, if c = 1 then k else k + 1, none⟩ := by
  unfold subA
  split
  · rfl
  · simp [addr_add]
theorem y_quCut {α : Type} {e b k c : Nat} {lo : Operand} {x : Operand} {y : α} {xs : List α} (hu : C.P.underlying t = some (.slice e)) (hs : ∀ w, (sizeOf e).run C.P w = .ok 1 w) (hx : val L x = some (.slice (some ⟨b, k, none⟩) (y :: xs).length c)) (hlo : val L lo = some (.int .i64 1)) (hc : (y :: xs).length ≤ c) :
    Yi C ⟨dst, .slice t x (some lo) none none, ty, pos, aft, gu⟩ L O S (.slice (some ⟨b, if c = 1 then k else k + 1, none⟩) xs.length (c - 1)) := by
  have h := y_sliceR (C := C) (O := O) (S := S) (dst := dst) (ty := ty) (pos := pos) (aft := aft) (gu := gu) (xs := y :: xs) (lo := some lo) (hi := none) 1 (y :: xs).length hu hs hx hlo rfl (by simp) (Nat.le_refl _) hc
  rw [subA_q, List.take_length] at h
  exact h
/-- One more at the end. -/
theorem oj_quAppend {α : Type} {e bytes b k c c2 b2 d : Nat} {s x : Operand} {en : α → Value} {xs : List α} {y : α} {O' : Nat → Nat → Nat → List Fact} (hE : ElemIs C.P t e 1 bytes) (hone : ∀ x, (en x).oneCell' = true)
    (hs : val L s = some (.slice (some ⟨b, k, none⟩) xs.length c)) (hx : val L x = some (.slice (some ⟨b2, 0, none⟩) 1 c2)) (hrd : Reads C O S 1 (fun x => [en x]) (some ⟨b2, 0, none⟩) [y])
    (hlen : xs.length + 1 ≤ 9223372036854775807) (hby : (xs.length + 1) * bytes ≤ 140737488355328) (hdN : Nat.blt d C.N = true)
    [hu : ∀ b' k' c', UpdQu O e en b k c xs (qu e en b' k' c' (xs ++ [y])) (O' b' k' c')]
    (kk : ∀ b' k' c', OJ C ops Q rest ((d, .slice (some ⟨b', k', none⟩) (xs ++ [y]).length c') :: L) (O' b' k' c') S) : OJ C ops Q (⟨some d, .call ⟨.builtin .append, #[s, x], #[t, t]⟩, ty, pos, aft, none⟩ :: rest) L O S := by
  intro a w hr hp
  have hdN' : d < C.N := by simpa [Nat.blt_eq] using hdN
  unfold wpListIn
  rw [if_pos (by simp [Region.wanted])]
  refine ⟨fun _ _ => trivial, ?_⟩
  rw [Oper.semAt_eq _ _ _ (by intro c h; cases h)]
  obtain ⟨i, z, hut, hi, hz, hsz, hbt, hzs, hpos⟩ := hE.ex
  obtain ⟨hP, hlt⟩ := hp.own _ (hu 0 0 0).rep.mem
  obtain ⟨cur, h1, h2, h3, h4⟩ := hP
  obtain ⟨ad, had, hc⟩ := hrd w hp (by simp)
  injection had with had
  subst had
  have hnews : ∀ j u, ([en y])[j]? = some u → w.cell? ((⟨b2, 0, none⟩ : Addr).add j) = some u := by
    intro j u hj
    have hj0 : j = 0 := by
      have := (List.getElem?_eq_some_iff.1 hj).1
      simp at this; exact this
    subst hj0
    have := hc 0 y 0 u rfl hj
    simpa using this
  have h1c : ∀ u ∈ [en y], u.oneCell' = true := fun u hu => by rw [List.mem_singleton.1 hu]; exact hone y
  have hblt : b < w.heap.size := (hlt b rfl)|>.1
  have hcell : ∀ (j : Nat) (v : Value), (xs.map en)[j]? = some v → w.cell? ((⟨b, k, none⟩ : Addr).add j) = some v := by
    intro j v hj
    rw [List.getElem?_map, Option.map_eq_some_iff] at hj
    obtain ⟨q, hq, rfl⟩ := hj
    rw [addr_add]
    exact qu_cell (e := e) (c := c) ⟨cur, h1, h2, h3, h4⟩ hq
  have hf := run_firstCells_some (P := C.P) w i.size 1 ⟨b2, 0, none⟩ 1 c2 [en y] (by rw [hsz]; rfl) hnews
  by_cases hroom : xs.length + 1 ≤ c
  · have hst := run_storeCells_at C.P b (k + xs.length) e [en y] 0 cur w h1 (by simp; omega) h1c
    simp only [Nat.add_zero] at hst
    have hrun : (execOp a.eval ⟨some d, .call ⟨.builtin .append, #[s, x], #[t, t]⟩, ty, pos, aft, none⟩).run C.P w = .ok (.value (.slice (some ⟨b, k, none⟩) (xs.length + 1) c)) (w.setRow b (cur.toList.take (k + xs.length) ++ [en y] ++ cur.toList.drop (k + xs.length + 1)).toArray) := by
      have hf' := run_firstCells_some (P := C.P) w 1 1 ⟨b2, 0, none⟩ 1 c2 [en y] rfl hnews
      simp [execOp, resolve, invoke, builtin, hr.val hs, hr.val hx, Builtin.append_, run_underlying hut, sizeOf, typeInfo, hi, hsz, Builtin.lenOf, hroom, hf', addr_add, hst]
    rw [hrun]
    show wpListIn _ _ _ _ _ _ _ _
    have := kk b k c (a.put (some d) (.slice (some ⟨b, k, none⟩) (xs ++ [y]).length c)) (w.setRow b (cur.toList.take (k + xs.length) ++ [en y] ++ cur.toList.drop (k + xs.length + 1)).toArray) (hr.put hdN' _) ?_
    · rw [List.length_append] at this; exact this
    · refine hp.write (hu b k c).rep rfl rfl rfl (by simp) (fun q hq hne => setRow_other w b q _ (fun hbq => hne hbq)) ?_ (fun q hq => ⟨?_, .inl hq⟩)
      · have hcs : (k + xs.length) ≤ cur.toList.length := by simp; omega
        refine ⟨_, setRow_heap w b cur _ e _ h1, ?_, by rw [List.length_append]; exact hroom, ?_⟩
        · simp only [List.size_toArray, List.length_append, List.length_take, List.length_drop, List.length_cons, List.length_nil, Array.length_toList]
          omega
        · have hd : (cur.toList.take (k + xs.length)).drop k = xs.map en := by rw [List.drop_take, Nat.add_sub_cancel_left]; exact h4
          have hl : (cur.toList.take (k + xs.length)).length = k + xs.length := by rw [List.length_take]; omega
          show (List.drop k ((cur.toList.take (k + xs.length) ++ [en y]) ++ _)).take _ = _
          rw [List.drop_append_of_le_length (by rw [List.length_append, hl]; omega), List.drop_append_of_le_length (by omega), hd, List.map_append]
          rw [show (xs ++ [y]).length = (xs.map en ++ [en y]).length by simp]
          exact List.take_left
      · have hq' : q = b := hq
        subst hq'; simpa using hblt
  · have hr2 := run_append_grow (P := C.P) w t ty e i z hut hi hz ⟨b, k, none⟩ xs.length c (xs.map en) (by rw [hsz, Nat.mul_one, List.length_map]) hcell ⟨b2, 0, none⟩ 1 c2 [en y] (by rw [hsz]; rfl) hnews (by omega) (by omega) (growslice_fits (by omega) (by rw [hbt]; exact hby))
    have hrun : (execOp a.eval ⟨some d, .call ⟨.builtin .append, #[s, x], #[t, t]⟩, ty, pos, aft, none⟩).run C.P w = .ok (.value (.slice (some ⟨w.heap.size, 0, none⟩) (xs.length + 1) (grownCap w (xs.length + 1) c e)))
        (w.drew.alloc (.cells ((xs.map en).toArray ++ [en y].toArray ++ Builtin.zeroCells z.cells (grownCap w (xs.length + 1) c e - (xs.length + 1))) e)) := by
      simp [execOp, resolve, invoke, builtin, hr.val hs, hr.val hx, hr2]
    rw [hrun]
    show wpListIn _ _ _ _ _ _ _ _
    have := kk w.heap.size 0 (grownCap w (xs.length + 1) c e) (a.put (some d) (.slice (some ⟨w.heap.size, 0, none⟩) (xs ++ [y]).length (grownCap w (xs.length + 1) c e))) (w.drew.alloc (.cells ((xs.map en).toArray ++ [en y].toArray ++ Builtin.zeroCells z.cells (grownCap w (xs.length + 1) c e - (xs.length + 1))) e)) (hr.put hdN' _) ?_
    · rw [List.length_append] at this; exact this
    · have hge := grownCap_ge w (xs.length + 1) c e
      refine hp.write (hu _ _ _).rep rfl rfl rfl (by simp) (fun q hq _ => Go.heap_alloc_old w.drew _ hq) ?_ (fun q hq => ⟨?_, .inr ?_⟩)
      · refine ⟨_, Go.heap_alloc_new w.drew _, ?_, by rw [List.length_append]; exact hge, ?_⟩
        · simp only [Array.size_append, List.size_toArray, size_zeroCells, hzs, List.length_map, List.length_cons, List.length_nil]
          omega
        · simp only [List.drop_zero, Array.toList_append, List.map_append, List.map_cons, List.map_nil]
          rw [show (xs ++ [y]).length = ((xs.map en).toArray.toList ++ [en y].toArray.toList).length by simp]
          exact List.take_left
      · have hq' : q = w.heap.size := hq
        subst hq'; simp
      · have hq' : q = w.heap.size := hq
        omega
/-! ### Frozen facts -/
theorem owSl {α : Type} {fp' : Nat → Prop} {e sz c : Nat} {enc : α → List Value} {A : Option Addr} {xs : List α} {w : World} (h : (ow e sz enc A c xs).P w) (he : ∀ x, (enc x).length = sz) (hm : xs.length ≤ maxLen) (hf : ∀ b, (ow e sz enc A c xs).fp b → fp' b) : (sl fp' sz enc A xs).P w := by
  refine ⟨hm, fun hne => ?_⟩
  have h' : w.ownsRow 0 e sz (.slice A xs.length c) xs.length (xs.flatMap enc) := h
  have hA : A ≠ none := by
    rintro rfl
    rcases h'.2 with ⟨_, h2⟩ | ⟨g, cap, cur, hv, _⟩
    · exact hne (List.eq_nil_of_length_eq_zero h2)
    · injection hv with hv; cases hv
  obtain ⟨a, rfl⟩ := Option.ne_none_iff_exists'.1 hA
  have hz : a = ⟨a.block, 0, none⟩ := by
    rcases h'.2 with ⟨h1, _⟩ | ⟨g, cap, cur, hv, _⟩
    · injection h1 with h1; cases h1
    · injection hv with hv; injection hv with hv; rw [hv]
  refine ⟨a, rfl, hf _ rfl, fun i x j u hx hu => ?_⟩
  have hj : j < sz := by
    have := (List.getElem?_eq_some_iff.1 hu).1
    rw [he] at this; exact this
  have h3 := flatMap_get enc sz he xs i x j hx hj
  rw [hu] at h3
  have := h'.cells (g := a.block) rfl (i * sz + j) u h3
  rwa [← hz] at this
theorem Hp.frzS {F : Nat → Prop} {w0 w : World} {O O' S : List Fact} (hp : Hp F w0 O S w) (o f : Fact) (hs : (o :: O').Sublist O) (hP : f.P w) (hfp : ∀ b, f.fp b → o.fp b ∨ ∃ g ∈ S, g.fp b) : Hp F w0 O' (f :: S) w := by
  have h1 := hp.sub (O' := o :: O') (S' := S) hs (fun _ h => h)
  have h2 := hp.sub (O' := O') (S' := S) ((List.sublist_cons_self o O').trans hs) (fun _ h => h)
  refine ⟨h2.os, h2.tape, h2.output, h2.size, h2.fr, h2.own, h2.apart, fun g hg => ?_⟩
  rcases List.mem_cons.1 hg with rfl | hg
  · refine ⟨hP, fun b hb => ?_, fun q hq b hb hqb => ?_⟩
    · rcases hfp b hb with h | ⟨g, hg, h⟩
      · exact ((h1.own o (List.mem_cons_self ..)).2 b h).1
      · exact (h2.shared g hg).2.1 b h
    · rcases hfp b hb with h | ⟨g, hg, h⟩
      · exact (List.pairwise_cons.1 h1.apart).1 q hq b h hqb
      · exact (h2.shared g hg).2.2 q hq b h hqb
  · exact h2.shared g hg
theorem cj_frzS {cd : Code} {O' : List Fact} (o f : Fact) [hs : SubO (o :: O') O] (hP : ∀ w, Hp C.F C.w0 O S w → f.P w) (hfp : ∀ b, f.fp b → o.fp b ∨ ∃ g ∈ S, g.fp b) (k : CJ C cd Q L O' (f :: S)) : CJ C cd Q L O S :=
  fun a w hr hp => k a w hr (Hp.frzS hp o f hs.sub (hP w hp) hfp)
theorem oj_frzS {O' : List Fact} (o f : Fact) [hs : SubO (o :: O') O] (hP : ∀ w, Hp C.F C.w0 O S w → f.P w) (hfp : ∀ b, f.fp b → o.fp b ∨ ∃ g ∈ S, g.fp b) (k : OJ C ops Q rest L O' (f :: S)) : OJ C ops Q rest L O S :=
  fun a w hr hp => k a w hr (Hp.frzS hp o f hs.sub (hP w hp) hfp)
/-- A call whose result may be about what is shared already, or about new blocks. -/
theorem oj_callR {X : Type} {xs : List Operand} {vs : List Value} {ats : Array TypeId} {f : FuncId} {d : Nat} (enc : X → Value) (Sx : X → List Fact) (hf : ∀ args w, (callFunc f args).run C.P w = .ok (.enter f args) w) (hv : valsO L xs = some vs)
    (hc : ∀ w, Hp C.F C.w0 O S w → Calls C.P f vs.toArray w (fun e w' => ∃ x, e = .returned (enc x) ∧ Grow w w' ∧ ∀ g ∈ Sx x, g.P w' ∧ ∀ b, g.fp b → (∃ s ∈ S, s.fp b) ∨ (w.heap.size ≤ b ∧ b < w'.heap.size))) (hdN : Nat.blt d C.N = true)
    (k : ∀ x, OJ C ops Q rest ((d, enc x) :: L) O (Sx x ++ S)) : OJ C ops Q (⟨some d, .call ⟨.value (.func f), xs.toArray, ats⟩, ty, pos, aft, none⟩ :: rest) L O S := by
  intro a w hr hp
  have hdN' : d < C.N := by simpa [Nat.blt_eq] using hdN
  unfold wpListIn
  rw [if_pos (by simp [Region.wanted])]
  refine ⟨fun _ _ => trivial, ?_⟩
  rw [Oper.semAt_eq _ _ _ (by intro c h; cases h), run_call hr hf hv]
  refine ⟨fun h => (by cases h), callsIn_FR.2 ((hc w hp).mono fun e w' hx => ?_)⟩
  obtain ⟨x, rfl, hg, hS⟩ := hx
  have h1 := hp.grow hg
  refine k x _ w' (hr.put hdN' _) ⟨h1.os, h1.tape, h1.output, h1.size, h1.fr, h1.own, h1.apart, fun g hg' => ?_⟩
  rcases List.mem_append.1 hg' with hg' | hg'
  · refine ⟨(hS g hg').1, fun b hb => ?_, fun o ho b hb hob => ?_⟩
    · rcases (hS g hg').2 b hb with ⟨s, hs, h⟩ | h
      · exact (h1.shared s hs).2.1 b h
      · exact h.2
    · rcases (hS g hg').2 b hb with ⟨s, hs, h⟩ | h
      · exact (h1.shared s hs).2.2 o ho b h hob
      · have := ((hp.own o ho).2 b hob).1; omega
  · exact h1.shared g hg'
theorem oj_insert {t : TypeId} {x y z : Operand} (k : OJ C ops Q (⟨none, .mapUpdate t x y z, ty, pos, aft, none⟩ :: rest) L O S) : OJ C ops Q (⟨none, .insert t x y z, ty, pos, aft, none⟩ :: rest) L O S := by
  intro a w hr hp
  have h := k a w hr hp
  unfold wpListIn at h ⊢
  rw [if_pos (by simp [Region.wanted])] at h
  rw [if_pos (by simp [Region.wanted])]
  unfold Oper.wpIn at h ⊢
  rw [Oper.semAt_eq _ _ _ (by intro c h; cases h)] at h
  rw [Oper.semAt_eq _ _ _ (by intro c h; cases h)]
  exact ⟨fun _ _ => trivial, h.2⟩
end
end Go.Sx
