/- Texts of ours, joined: 9 of them. Conditions: none. -/
import Derived.Test.YtlfbghkcfmcnlaaXPledgeOrder1
import Derived.Test.YtlfbghkcfmcnlaaProg
import Derived.Laws.StructEq
namespace Go.Proofs.Ytlfbghkcfmcnlaa
open Go.Sx Go.RowKit

def ringI (n m : Int) : Int := if m ≤ 0 then 0 else ((n.tmod m) + m).tmod m
theorem ringI_bd (n m : Int) (hm : 1 ≤ m) : 0 ≤ ringI n m ∧ ringI n m < m := by
  unfold ringI
  rw [if_neg (by omega)]
  have h1 : -m < n.tmod m ∧ n.tmod m < m := by
    rcases Int.lt_or_le n 0 with h | h
    · have h2 := Int.tmod_lt_of_pos (-n) (show (0 : Int) < m by omega)
      have h3 := Int.tmod_nonneg m (show 0 ≤ -n by omega)
      rw [Int.neg_tmod] at h2 h3
      omega
    · have h2 := Int.tmod_lt_of_pos n (show (0 : Int) < m by omega)
      have h3 := Int.tmod_nonneg m h
      omega
  exact ⟨Int.tmod_nonneg m (by omega), Int.tmod_lt_of_pos _ (by omega)⟩
def pickI (l : List Int) (i : Int) : Int := if l.length = 0 then 0 else l.getD (ringI i l.length).toNat default
/-- a reading that is true of a size, as a number chooses it -/
def readI (m : Meas) (size bit : Int) : Int := max 0 (size - m.tol) + ringI bit (min 100000 (size + m.tol) - max 0 (size - m.tol) + 1)
theorem readI_bd (m : Meas) (size bit : Int) (ht : 0 ≤ m.tol ∧ m.tol ≤ 1000) (hs : 0 ≤ size ∧ size ≤ 100000) : 0 ≤ readI m size bit ∧ readI m size bit ≤ 100000 ∧ size - m.tol ≤ readI m size bit ∧ readI m size bit ≤ size + m.tol := by
  unfold readI
  have h := ringI_bd bit (min 100000 (size + m.tol) - max 0 (size - m.tol) + 1) (by omega)
  omega

theorem gd_of {α : Type} {l : List α} {i : Nat} {x : α} (d : α) (h : l[i]? = some x) : l.getD i d = x := by
  rw [List.getD_eq_getElem?_getD, h]; rfl
theorem all_snoc {P : Nat → Int → Prop} {xs : List Int} {k : Nat} {v : Int} (h : ∀ i, i < k → P i (xs.getD i 0)) (hl : xs.length = k) (hv : P k v) : ∀ i, i < k + 1 → P i ((xs ++ [v]).getD i 0) := by
  intro i hi
  rw [List.getD_eq_getElem?_getD]
  rcases Nat.lt_or_ge i k with h1 | h1
  · rw [List.getElem?_append_left (by omega), ← List.getD_eq_getElem?_getD]; exact h i h1
  · have : i = k := by omega
    subst this
    rw [List.getElem?_append_right (by omega), hl, Nat.sub_self]; exact hv
/-! ### A fake that is swapped in -/
/-- what is read of the fake by a measure of the set; else: nothing -/
def RetOk (m : Meas) (s : Span) (inS : Bool) (r : Int) : Prop := (inS = false ∧ r = -1) ∨ (inS = true ∧ 0 ≤ r ∧ r ≤ 100000 ∧ s.lo - m.tol ≤ r ∧ r ≤ s.hi + m.tol)
def near1 (m : Meas) (t : Int) (s : Span) : Int := min (max t (max 0 (s.lo - m.tol))) (min 100000 (s.hi + m.tol))
theorem near_fnd (m : Meas) (t : Int) (s : Span) (ht : 0 ≤ m.tol ∧ m.tol ≤ 1000) (hr : -1 ≤ t ∧ t ≤ 100000) (hs : 0 ≤ s.lo ∧ s.lo ≤ s.hi ∧ s.hi ≤ 100000) : (-1 ≤ near1 m t s ∧ near1 m t s ≤ 100000) ∧ disag m t (near1 m t s) = fnd m t s := by
  unfold near1
  refine ⟨by omega, ?_⟩
  unfold disag fnd btw
  rw [Bool.eq_iff_iff]
  simp only [Bool.and_eq_true, Bool.or_eq_true, Bool.not_eq_true', decide_eq_true_eq, Bool.and_eq_false_iff, decide_eq_false_iff_not]
  omega
theorem ret_fnd (m : Meas) (t r : Int) (s : Span) (_ht : 0 ≤ m.tol ∧ m.tol ≤ 1000) (h : RetOk m s true r) (hf : fnd m t s = true) : disag m t r = true := by
  rcases h with ⟨h, _⟩ | ⟨_, h⟩
  · cases h
  · unfold fnd at hf
    unfold disag btw
    simp only [Bool.and_eq_true, Bool.or_eq_true, Bool.not_eq_true', decide_eq_true_eq, Bool.and_eq_false_iff, decide_eq_false_iff_not] at hf ⊢
    omega
theorem agrF_at : ∀ (ms : List Meas) (aq bs : List Int), aq.length = ms.length → bs.length = ms.length → (agrF ms aq bs = true ↔ ∀ i, i < ms.length → disag (ms.getD i default) (aq.getD i 0) (bs.getD i 0) = false)
  | [], _, _, _, _ => by simp [agrF]
  | m :: ms, [], _, h, _ => by simp at h
  | m :: ms, a :: aq, [], _, h => by simp at h
  | m :: ms, a :: aq, b :: bs, h1, h2 => by
    have ih := agrF_at ms aq bs (by simpa using h1) (by simpa using h2)
    rw [agrF, Bool.and_eq_true, ih, Bool.not_eq_true']
    constructor
    · rintro ⟨h3, h4⟩ i hi
      cases i with
      | zero => simpa using h3
      | succ i => simpa using h4 i (by simpa using hi)
    · intro h
      refine ⟨by simpa using h 0 (by simp), fun i hi => ?_⟩
      simpa using h (i + 1) (by simpa using hi)
theorem fndF_nil_iff : ∀ (ms : List Meas) (rs : List Int) (ss : List Span) (k : Nat), rs.length = ms.length → ss.length = ms.length → (fndF ms rs ss k = [] ↔ ∀ i, i < ms.length → fnd (ms.getD i default) (rs.getD i 0) (ss.getD i default) = false)
  | [], _, _, _, _, _ => by simp
  | m :: ms, [], _, _, h, _ => by simp at h
  | m :: ms, r :: rs, [], _, _, h => by simp at h
  | m :: ms, r :: rs, s :: ss, k, h1, h2 => by
    have ih := fndF_nil_iff ms rs ss (k + 1) (by simpa using h1) (by simpa using h2)
    rw [fndF]
    constructor
    · intro h i hi
      cases hf : fnd m r s with
      | true => rw [hf] at h; simp at h
      | false =>
        rw [hf, if_neg (by simp)] at h
        cases i with
        | zero => simpa using hf
        | succ i => simpa using ih.1 h i (by simpa using hi)
    · intro h
      have h0 : fnd m r s = false := by simpa using h 0 (by simp)
      rw [h0, if_neg (by simp)]
      exact ih.2 (fun i hi => by simpa using h (i + 1) (by simpa using hi))
/-- what is known of the two lists of readings -/
structure SwapIs (ms : List Meas) (tk : List Int) (f : FakeV) (set : List Int) (rt nr : List Int) : Prop where
  l1 : rt.length = ms.length
  l2 : nr.length = ms.length
  ret : ∀ i, i < ms.length → RetOk (ms.getD i default) (f.has.getD i default) (hasI set i) (rt.getD i 0)
  nea : ∀ i, i < ms.length → nr.getD i 0 = near1 (ms.getD i default) (tk.getD i 0) (f.has.getD i default)
theorem swap_all {ms : List Meas} {tk : List Int} {fs : List FakeV} {f : FakeV} {set rt nr : List Int} (h0 : skillE ms tk fs = 0) (hf : f ∈ fs) (h : SwapIs ms tk f set rt nr) :
    AgrE ms tk rt = 0 ∧ AgrE ms tk nr = 0 ∧ FndE ms tk f = 0 ∧ (setOk ms.length set = true → shwB ms tk fs set = true → AgrB ms tk rt = false) ∧ AgrB ms tk nr = decide (FndL ms tk f = []) := by
  obtain ⟨hmo, hto, hfo, _⟩ := skill_0 (ms := ms) (tk := tk) (fs := fs) (by rw [h0]; rfl)
  obtain ⟨hml, hmb⟩ := meas_bd hmo
  have htb := rdOk_bd hto
  have hfb := (fakes_bd hfo).2 f hf
  have gm : ∀ i, i < ms.length → (0 ≤ (ms.getD i default).tol ∧ (ms.getD i default).tol ≤ 1000) := fun i hi => (hmb _ (memGet hi)).1
  have gt : ∀ i, i < ms.length → (-1 ≤ tk.getD i 0 ∧ tk.getD i 0 ≤ 100000) := fun i hi => htb.2 _ (memGet (l := tk) (by omega))
  have gs : ∀ i, i < ms.length → (0 ≤ (f.has.getD i default).lo ∧ (f.has.getD i default).lo ≤ (f.has.getD i default).hi ∧ (f.has.getD i default).hi ≤ 100000) := fun i hi => hfb.2 _ (memGet (by omega))
  have rd : ∀ l : List Int, l.length = ms.length → (∀ i, i < ms.length → -1 ≤ l.getD i 0 ∧ l.getD i 0 ≤ 100000) → rdOk ms.length l = true := by
    intro l hl hb
    rw [rdOk, Bool.and_eq_true]
    refine ⟨by rw [beq_iff_eq]; omega, List.all_eq_true.2 (fun x hx => ?_)⟩
    obtain ⟨i, hi⟩ := List.mem_iff_getElem?.1 hx
    have hi2 := (List.getElem?_eq_some_iff.1 hi).1
    have := hb i (by omega)
    rw [List.getD_eq_getElem?_getD, hi] at this
    simp only [Option.getD_some] at this
    rw [rd1, btw, decide_eq_true this.1, decide_eq_true this.2]; rfl
  have h1 := rd rt h.l1 (fun i hi => by
    rcases h.ret i hi with ⟨_, h2⟩ | ⟨_, h2⟩
    · omega
    · omega)
  have h2 := rd nr h.l2 (fun i hi => by rw [h.nea i hi]; exact (near_fnd _ _ _ (gm i hi) (gt i hi) (gs i hi)).1)
  have a1 := agr_yes (a := tk) (b := rt) hmo (by rw [hto, h1]; rfl)
  have a2 := agr_yes (a := tk) (b := nr) hmo (by rw [hto, h2]; rfl)
  have hfk : fakesOk ms.length [f] = true := by
    have := (List.all_eq_true.1 (Bool.and_eq_true_iff.1 hfo).2) f hf
    rw [fakesOk, List.all_cons, this]; rfl
  have hz : FndE ms tk f = 0 := by rw [FndE, skillE, hmo, hto, hfk]; rfl
  refine ⟨a1.1, a2.1, hz, fun hs hsh => ?_, ?_⟩
  · have h3 : shwF ms tk set f = true := List.all_eq_true.1 hsh f hf
    have hrg : ∀ i ∈ set, 0 ≤ i ∧ i < (ms.length : Int) := fun i hi => by have := setF_rng ms.length set (-1) hs i hi; omega
    rw [← shwF_ref htb.1 hfb.1 hrg] at h3
    obtain ⟨i, hi, h4⟩ := List.any_eq_true.1 h3
    have hir := hrg i hi
    have hin : hasI set ((i.toNat : Nat) : Int) = true := List.any_eq_true.2 ⟨i, hi, decide_eq_true (by omega)⟩
    have h5 := h.ret i.toNat (by omega)
    rw [hin] at h5
    have h6 := ret_fnd _ (tk.getD i.toNat 0) _ _ (gm i.toNat (by omega)) h5 h4
    rw [a1.2]
    cases hA : agrF ms tk rt with
    | false => rfl
    | true =>
      have := (agrF_at ms tk rt htb.1 h.l1).1 hA i.toNat (by omega)
      rw [this] at h6; cases h6
  · rw [a2.2, FndL, if_pos hz, Bool.eq_iff_iff, decide_eq_true_eq, agrF_at ms tk nr htb.1 h.l2]
    unfold foundL
    rw [fndF_nil_iff ms tk f.has 0 htb.1 hfb.1]
    constructor
    · intro h3 i hi
      rw [← (near_fnd _ _ _ (gm i hi) (gt i hi) (gs i hi)).2, ← h.nea i hi]; exact h3 i hi
    · intro h3 i hi
      rw [h.nea i hi, (near_fnd _ _ _ (gm i hi) (gt i hi) (gs i hi)).2]; exact h3 i hi

/-! ### True readings -/
/-- a reading that is true, or none -/
def TrueR (m : Meas) (size r : Int) : Prop := r = -1 ∨ (0 ≤ r ∧ r ≤ 100000 ∧ size - m.tol ≤ r ∧ r ≤ size + m.tol)
/-- the readings of one time -/
def RowT (ms : List Meas) (sz : Nat → Int) (l : List Int) : Prop := l.length = ms.length ∧ ∀ i, i < ms.length → TrueR (ms.getD i default) (sz i) (l.getD i 0)
theorem rowT_ok {ms : List Meas} {sz : Nat → Int} {l : List Int} (h : RowT ms sz l) : rdOk ms.length l = true := by
  rw [rdOk, Bool.and_eq_true]
  refine ⟨by rw [beq_iff_eq]; have := h.1; omega, List.all_eq_true.2 (fun x hx => ?_)⟩
  obtain ⟨i, hi⟩ := List.mem_iff_getElem?.1 hx
  have hi2 := (List.getElem?_eq_some_iff.1 hi).1
  have h2 := h.2 i (by have := h.1; omega)
  rw [gd_of (0 : Int) hi] at h2
  rw [rd1, btw]
  rcases h2 with h2 | h2
  · rw [h2]; rfl
  · rw [decide_eq_true (show -1 ≤ x by omega), decide_eq_true h2.2.1]; rfl
theorem rowT_agr {ms : List Meas} {sz : Nat → Int} {a b : List Int} (hmo : measOk ms = true) (ha : RowT ms sz a) (hb : RowT ms sz b) : AgrE ms a b = 0 ∧ AgrB ms a b = true := by
  obtain ⟨_, hmb⟩ := meas_bd hmo
  have h1 := agr_yes (a := a) (b := b) hmo (by rw [rowT_ok ha, rowT_ok hb]; rfl)
  refine ⟨h1.1, ?_⟩
  rw [h1.2, agrF_at ms a b ha.1 hb.1]
  intro i hi
  have h2 := ha.2 i hi
  have h3 := hb.2 i hi
  have h4 := (hmb _ (memGet hi)).1
  unfold disag btw
  rw [Bool.eq_false_iff]
  simp only [ne_eq, Bool.and_eq_true, Bool.not_eq_true', decide_eq_true_eq, Bool.and_eq_false_iff, decide_eq_false_iff_not]
  rcases h2 with h2 | h2 <;> rcases h3 with h3 | h3 <;> omega
theorem narS_in (tol size : Int) : ∀ (l : List Int) (s : Span), (s.lo ≤ size ∧ size ≤ s.hi) → (∀ r ∈ l, r = -1 ∨ (size - tol ≤ r ∧ r ≤ size + tol)) → (narS tol s l).lo ≤ size ∧ size ≤ (narS tol s l).hi
  | [], s, h, _ => h
  | r :: l, s, h, hl => by
    rw [narS]
    refine narS_in tol size l _ ?_ (fun q hq => hl q (List.mem_cons_of_mem _ hq))
    have h2 := hl r (List.mem_cons_self ..)
    unfold nar1
    split
    · simp only; omega
    · exact h
theorem narF_in {ls : List ListV} : ∀ (ms : List Meas) (k : Nat) (sz : Nat → Int), (∀ i, i < ms.length → (0 ≤ sz (k + i) ∧ sz (k + i) ≤ 100000) ∧ ∀ r ∈ col (k + i) ls, r = -1 ∨ (sz (k + i) - (ms.getD i default).tol ≤ r ∧ r ≤ sz (k + i) + (ms.getD i default).tol)) →
    ∃ l, narF ls ms k = some l ∧ l.length = ms.length ∧ ∀ i, i < ms.length → (l.getD i default).lo ≤ sz (k + i) ∧ sz (k + i) ≤ (l.getD i default).hi
  | [], k, sz, _ => ⟨[], rfl, rfl, fun i hi => by simp at hi⟩
  | m :: ms, k, sz, h => by
    have h0 := h 0 (by simp)
    simp only [Nat.add_zero, List.getD_cons_zero] at h0
    have h1 := narS_in m.tol (sz k) (col k ls) sp0 h0.1 h0.2
    obtain ⟨l, h2, h3, h4⟩ := narF_in ms (k + 1) sz (fun i hi => by
      have := h (i + 1) (by simpa using hi)
      rw [show k + (i + 1) = k + 1 + i by omega] at this
      simpa using this)
    refine ⟨narS m.tol sp0 (col k ls) :: l, ?_, by simp [h3], fun i hi => ?_⟩
    · rw [narF, if_neg (by omega), h2]; rfl
    · cases i with
      | zero => simpa using h1
      | succ i =>
        have := h4 i (by simpa using hi)
        rw [show k + (i + 1) = k + 1 + i by omega]
        simpa using this
theorem true_nar {ms : List Meas} {ls : List ListV} {sz : Nat → Int} (hmo : measOk ms = true) (hl : ls.length ≤ 16) (hs : ∀ i, 0 ≤ sz i ∧ sz i ≤ 100000) (h : ∀ x ∈ ls, RowT ms sz x.l) :
    NarE ms ls = 0 ∧ (NarL ms ls).length = ms.length ∧ ∀ i, i < ms.length → ((NarL ms ls).getD i default).lo ≤ sz i ∧ sz i ≤ ((NarL ms ls).getD i default).hi := by
  obtain ⟨l, h1, h2, h3⟩ := narF_in (ls := ls) ms 0 sz (fun i hi => by
    rw [Nat.zero_add]
    refine ⟨hs i, fun r hr => ?_⟩
    unfold col at hr
    obtain ⟨x, hx, rfl⟩ := List.mem_map.1 hr
    rcases (h x hx).2 i hi with h4 | h4
    · exact .inl h4
    · exact .inr h4.2.2)
  have h4 : ls.all (rdOkV ms.length) = true := List.all_eq_true.2 (fun x hx => rowT_ok (h x hx))
  obtain ⟨e1, e2⟩ := nar_yes hmo (decide_eq_false (by omega)) h4 h1
  refine ⟨e1, by rw [e2]; exact h2, fun i hi => ?_⟩
  rw [e2]
  have := h3 i hi
  rwa [Nat.zero_add] at this
end Go.Proofs.Ytlfbghkcfmcnlaa
namespace Go.Proofs.Ytlfbghkcfmcnlaa
open Go.Sx Go.RowKit
set_option maxRecDepth 20000

end Go.Proofs.Ytlfbghkcfmcnlaa
namespace Go.Proofs.Ytlfbghkcfmcnlaa
open Go.Sx Go.RowKit
set_option maxRecDepth 20000
theorem k_Ring (n m : Int) (w : World) (hm : m ≤ 4611686018427387904) : Calls Try.prog 32 #[.int .i64 n, .int .i64 m] w (fun e w' => e = .returned (.int .i64 (ringI n m)) ∧ Grow w w') := by
  refine enter_pure (args := [.int .i64 n, .int .i64 m]) [] Try.func32 rfl (by rw [Try.ntmps32]; simp) (by simp) ?_
  refine cj_seq ?_
  refine cj_regionG (gj_step (y_assign rfl) rfl rfl rfl (gj_nil ?_))
  refine ej_th (cj_seq (cj_seq ?_))
  refine cj_regionG (gj_step (y_move rfl) rfl rfl rfl (gj_step (y_leq rfl rfl) rfl rfl rfl (gj_nil ?_)))
  refine ej_th ?_
  refine cj_cond rfl (fun h6 => ?_) (fun h6 => ?_)
  · have h6b := h6
    try simp only [sxb] at h6
    refine cj_seq ?_
    refine cj_regionG (gj_step (y_assign rfl) rfl rfl rfl (gj_nil ?_))
    refine ej_th (cj_ret (ej_then_ret ?_))
    refine ej_ret1 rfl Try.results32 rfl (fun w' hp => ⟨?_, hp.below⟩)
    rw [ringI, if_pos h6]
  · have h6b := h6
    try simp only [sxb] at h6
    refine cj_skip (ej_th (cj_seq ?_))
    refine cj_regionG (gj_step (y_move rfl) rfl rfl rfl (gj_step (y_move rfl) rfl rfl rfl (gj_step (y_remw rfl rfl (by omega)) rfl rfl rfl (gj_step (y_move rfl) rfl rfl rfl (gj_step (y_add rfl rfl (by have h1 := Int.tmod_lt_of_pos n (show 0 < m by omega); have h2 := Int.lt_tmod_of_pos n (show 0 < m by omega); omega)) rfl rfl rfl (gj_step (y_move rfl) rfl rfl rfl (gj_step (y_remw rfl rfl (by omega)) rfl rfl rfl (gj_step (y_assign rfl) rfl rfl rfl (gj_nil ?_)))))))))
    refine ej_th (cj_ret ?_)
    refine ej_ret1 rfl Try.results32 rfl (fun w' hp => ⟨?_, hp.below⟩)
    rw [ringI, if_neg (by omega)]

theorem k_Pick (l : List Int) (A : Option Addr) (c : Nat) (i : Int) (w : World) (hl : Rd w 1 enInt A l) (h8 : l.length * 8 ≤ 140737488351232) : Calls Try.prog 33 #[.slice A l.length c, .int .i64 i] w (fun e w' => e = .returned (.int .i64 (pickI l i)) ∧ Grow w w') := by
  refine enter_pure (args := [.slice A l.length c, .int .i64 i]) [sl (fun b => b < w.heap.size) 1 enInt A l] Try.func33 rfl (by rw [Try.ntmps33]; simp) (fun g hg => by simp at hg; subst hg; exact ⟨hl, fun _ h => h⟩) ?_
  refine cj_seq ?_
  refine cj_regionG (gj_step (y_assign rfl) rfl rfl rfl (gj_nil ?_))
  refine ej_th (cj_seq (cj_seq ?_))
  refine cj_regionG (gj_step (y_move rfl) rfl rfl rfl (gj_step (y_lenA Try.underlying37 rfl) rfl rfl rfl (gj_step (y_eql rfl rfl) rfl rfl rfl (gj_nil ?_))))
  refine ej_th ?_
  refine cj_cond rfl (fun h7 => ?_) (fun h7 => ?_)
  · have h7b := h7
    try simp only [sxb] at h7
    refine cj_seq ?_
    refine cj_regionG (gj_step (y_assign rfl) rfl rfl rfl (gj_nil ?_))
    refine ej_th (cj_ret (ej_then_ret ?_))
    refine ej_ret1 rfl Try.results33 rfl (fun w' hp => ⟨?_, hp.below⟩)
    rw [pickI, if_pos (show l.length = 0 by omega)]
  · have h7b := h7
    try simp only [sxb] at h7
    have hne : ¬ l.length = 0 := by omega
    have hrb := ringI_bd i l.length (by omega)
    refine cj_skip (ej_th (cj_seq ?_))
    refine cj_regionG ?_
    refine gj_step (y_move rfl) rfl rfl rfl (gj_step (y_move rfl) rfl rfl rfl (gj_step (y_move rfl) rfl rfl rfl (gj_step (y_lenA Try.underlying37 rfl) rfl rfl rfl (?_))))
    refine gj_step (y_call Try.call32 rfl (fun w hp => k_Ring _ _ w (by omega))) rfl rfl rfl ?_
    refine gj_step (y_ixR (reads_sl) Try.underlying37 Try.sizeOf3 rfl rfl (⟨by omega, by omega⟩)) rfl rfl rfl (gj_step (y_ld0 (reads_sl) Try.isAgg3 rfl (geq default (by omega)) rfl) rfl rfl rfl (gj_step (y_assign rfl) rfl rfl rfl (?_)))
    refine gj_nil ?_
    refine ej_th (cj_ret ?_)
    refine ej_ret1 rfl Try.results33 rfl (fun w' hp => ⟨?_, hp.below⟩)
    rw [pickI, if_neg hne]

theorem k_read (m : Meas) (z bit : Int) (w : World) (ht : 0 ≤ m.tol ∧ m.tol ≤ 1000) (hz : 0 ≤ z ∧ z ≤ 100000) : Calls Try.prog 31 #[evMe m, .int .i64 z, .int .i64 bit] w (fun e w' => e = .returned (.int .i64 (readI m z bit)) ∧ Grow w w') := by
  have hrr := readI_bd m z bit ht hz
  unfold readI at hrr
  refine enter_pure (args := [evMe m, .int .i64 z, .int .i64 bit]) [] Try.func31 rfl (by rw [Try.ntmps31]; simp) (by simp) ?_
  refine cj_seq (cj_region ?_)
  refine oj_box rfl rfl rfl (fun b3 => ?_)
  refine oj_step (y_assign rfl) rfl rfl rfl ?_
  refine oj_nil ?_
  refine ej_th (cj_seq ?_)
  refine cj_draw (by kernel_rfl) (by kernel_rfl) (gj_step (y_move rfl) rfl rfl rfl (gj_step (y_fa0 fa57_0 rfl) rfl rfl rfl (gj_step (y_load1 Try.isAgg3 rfl rfl) rfl rfl rfl (gj_step (y_sub rfl rfl (by omega)) rfl rfl rfl (gj_step (y_max rfl rfl) rfl rfl rfl (gj_step (y_move rfl) rfl rfl rfl (gj_step (y_fa0 fa57_0 rfl) rfl rfl rfl (gj_step (y_load1 Try.isAgg3 rfl rfl) rfl rfl rfl (gj_step (y_add rfl rfl (by omega)) rfl rfl rfl (gj_step (y_min rfl rfl) rfl rfl rfl (gj_step (y_assign rfl) rfl rfl rfl (gj_step (y_assign rfl) rfl rfl rfl (gj_nil ?_)))))))))))))
  refine ej_th (cj_seq ?_)
  refine cj_regionG ?_
  refine gj_step (y_move rfl) rfl rfl rfl (gj_step (y_move rfl) rfl rfl rfl (gj_step (y_move rfl) rfl rfl rfl (gj_step (y_move rfl) rfl rfl rfl (gj_step (y_sub rfl rfl (by omega)) rfl rfl rfl (gj_step (y_add rfl rfl (by omega)) rfl rfl rfl (?_))))))
  refine gj_step (y_call Try.call32 rfl (fun w hp => k_Ring _ _ w (by omega))) rfl rfl rfl ?_
  refine gj_step (y_add rfl rfl (by omega)) rfl rfl rfl (gj_step (y_assign rfl) rfl rfl rfl (?_))
  refine gj_nil ?_
  refine ej_th (cj_ret ?_)
  refine ej_ret1 rfl Try.results31 rfl (fun w' hp => ⟨?_, hp.below⟩)
  rfl

end Go.Proofs.Ytlfbghkcfmcnlaa
namespace Go.Proofs.Ytlfbghkcfmcnlaa
open Go.Sx Go.RowKit

def LessS (ts : List TraitV) (ys xs : List ByteArray) : Prop := ys.length = xs.length ∧ ∀ k, k < xs.length → ys.getD k default = xs.getD k default ∨ (ys.getD k default = ⟨#[]⟩ ∧ (ts.getD k default).must = false)
theorem LessS.refl (ts : List TraitV) (xs : List ByteArray) : LessS ts xs xs := ⟨rfl, fun _ _ => .inl rfl⟩
theorem LessS.set {ts : List TraitV} {ys xs : List ByteArray} (h : LessS ts ys xs) {k : Nat} (hk : k < xs.length) (hm : (ts.getD k default).must = false) : LessS ts (ys.set k ⟨#[]⟩) xs := by
  refine ⟨by simp [h.1], fun j hj => ?_⟩
  by_cases e : k = j
  · subst e
    refine .inr ⟨?_, hm⟩
    rw [List.getD_eq_getElem?_getD, List.getElem?_set, if_pos rfl, if_pos (by rw [h.1]; exact hk)]; rfl
  · have : (ys.set k ⟨#[]⟩).getD j default = ys.getD j default := by
      rw [List.getD_eq_getElem?_getD, List.getElem?_set, if_neg e, ← List.getD_eq_getElem?_getD]
    rw [this]; exact h.2 j hj
mutual
def LessP (g : List (ByteArray × ClassV)) : IT → IT → Prop
  | .mk cls says parts, x => cls = x.cls ∧ LessS (traitsOf g cls) says x.says ∧ LessL g parts x.parts
def LessL (g : List (ByteArray × ClassV)) : List IT → List IT → Prop
  | [], _ => True
  | p :: l, bs => ∃ b1 q b2, bs = b1 ++ q :: b2 ∧ LessP g p q ∧ LessL g l b2
end
theorem LessP_iff (g : List (ByteArray × ClassV)) (y x : IT) : LessP g y x ↔ y.cls = x.cls ∧ LessS (traitsOf g y.cls) y.says x.says ∧ LessL g y.parts x.parts := by
  obtain ⟨_, _, _⟩ := y; rw [LessP]; rfl
theorem lessL_more (g : List (ByteArray × ClassV)) : ∀ (l bs : List IT) (q : IT), LessL g l bs → LessL g l (bs ++ [q])
  | [], _, _, _ => by rw [LessL]; trivial
  | p :: l, bs, q, h => by
    rw [LessL] at h ⊢
    obtain ⟨b1, r, b2, e, h1, h2⟩ := h
    exact ⟨b1, r, b2 ++ [q], by rw [e]; simp, h1, lessL_more g l b2 q h2⟩
theorem lessL_snoc (g : List (ByteArray × ClassV)) : ∀ (l bs : List IT) (p q : IT), LessL g l bs → LessP g p q → LessL g (l ++ [p]) (bs ++ [q])
  | [], bs, p, q, _, h => by
    rw [List.nil_append, LessL]
    exact ⟨bs, q, [], rfl, h, by rw [LessL]; trivial⟩
  | a :: l, bs, p, q, h, hp => by
    rw [LessL] at h
    obtain ⟨b1, r, b2, e, h1, h2⟩ := h
    rw [List.cons_append, LessL]
    exact ⟨b1, r, b2 ++ [q], by rw [e]; simp, h1, lessL_snoc g l b2 p q h2 hp⟩
theorem saysCov_iff : ∀ ss ts : List ByteArray, ss.length = ts.length → (saysCov ss ts = true ↔ ∀ k, k < ss.length → ss.getD k default = ⟨#[]⟩ ∨ ss.getD k default = ts.getD k default)
  | [], _, _ => by simp [saysCov]
  | _ :: _, [], h => by simp at h
  | s :: ss, t :: ts, h => by
    rw [saysCov, Bool.and_eq_true, saysCov_iff ss ts (by simpa using h)]
    simp only [Bool.not_eq_true', Bool.and_eq_false_iff, Bool.not_eq_false']
    constructor
    · rintro ⟨h1, h2⟩ k hk
      cases k with
      | zero =>
        rcases h1 with h1 | h1
        · exact .inl (bytes_eq h1)
        · exact .inr (bytes_eq h1)
      | succ k => exact h2 k (by simpa using hk)
    · intro h1
      refine ⟨?_, fun k hk => h1 (k + 1) (by simpa using hk)⟩
      rcases h1 0 (by simp) with h2 | h2
      · refine .inl ?_
        rw [bytes_beq]; exact decide_eq_true h2.symm
      · refine .inr ?_
        rw [bytes_beq]; exact decide_eq_true h2.symm
theorem saysOk_iff : ∀ (ts : List TraitV) (ss : List ByteArray), ss.length = ts.length → (saysOk ts ss = true ↔ ∀ k, k < ss.length → saysOne (ts.getD k default) (ss.getD k default) = true)
  | [], [], _ => by simp [saysOk]
  | [], _ :: _, h => by simp at h
  | _ :: _, [], h => by simp at h
  | t :: ts, s :: ss, h => by
    rw [saysOk, Bool.and_eq_true, saysOk_iff ts ss (by simpa using h)]
    constructor
    · rintro ⟨h1, h2⟩ k hk
      cases k with
      | zero => exact h1
      | succ k => exact h2 k (by simpa using hk)
    · intro h1
      exact ⟨h1 0 (by simp), fun k hk => h1 (k + 1) (by simpa using hk)⟩
theorem covL_more : ∀ (l b1 b2 : List IT), CovPL l b2 → CovPL l (b1 ++ b2)
  | [], _, _, _ => by rw [CovPL]; trivial
  | p :: l, b1, b2, h => by
    rw [CovPL] at h ⊢
    obtain ⟨q, c1, c2, e, h1, h2⟩ := h
    exact ⟨q, b1 ++ c1, c2, by rw [e]; simp, h1, by rw [List.append_assoc]; exact covL_more l b1 (c1 ++ c2) h2⟩
mutual
theorem less_cov {g : List (ByteArray × ClassV)} : ∀ y x : IT, LessP g y x → CovP y x
  | .mk cls says parts, x, h => by
    rw [LessP] at h
    rw [CovP]
    refine ⟨h.1, (saysCov_iff says x.says h.2.1.1).2 (fun k hk => ?_), lessL_cov parts x.parts h.2.2⟩
    rcases h.2.1.2 k (by rw [← h.2.1.1]; exact hk) with h1 | h1
    · exact .inr h1
    · exact .inl h1.1
theorem lessL_cov {g : List (ByteArray × ClassV)} : ∀ l bs : List IT, LessL g l bs → CovPL l bs
  | [], _, _ => by rw [CovPL]; trivial
  | p :: l, bs, h => by
    rw [LessL] at h
    obtain ⟨b1, q, b2, e, h1, h2⟩ := h
    rw [CovPL]
    exact ⟨q, b1, b2, e, less_cov p q h1, covL_more l b1 b2 (lessL_cov l b2 h2)⟩
end
theorem lessL_len (g : List (ByteArray × ClassV)) : ∀ l bs : List IT, LessL g l bs → l.length ≤ bs.length
  | [], _, _ => Nat.zero_le _
  | p :: l, bs, h => by
    rw [LessL] at h
    obtain ⟨b1, q, b2, e, _, h2⟩ := h
    have := lessL_len g l b2 h2
    rw [e]; simp; omega
/-! ### What is left is valid -/
mutual
def valT (l : List ClassV) : IT → Int → Bool
  | .mk cls says parts, deep =>
    match clsOf l cls with
    | none => false
    | some c => if 3 < deep ∨ says.length ≠ c.traits.length ∨ c.most < (parts.length : Int) then false else saysOk c.traits says && valTL l c.parts parts deep
def valTL (l : List ClassV) (cp : List ByteArray) : List IT → Int → Bool
  | [], _ => true
  | p :: r, deep => (hasW cp p.cls && valT l p (deep + 1)) && valTL l cp r deep
end
mutual
theorem valI_T (l : List ClassV) : ∀ (x : ItemV) (deep : Int), valI l x deep = valT l x.pl deep
  | .mk cls As cs says Ap cp parts, deep => by
    rw [valI, ItemV.pl, valT]
    have hl : (plL parts).length = parts.length := by rw [plL_map, List.length_map]
    rw [hl]
    cases clsOf l cls with
    | none => rfl
    | some c =>
      simp only
      rw [valL_T l c.parts parts deep]
theorem valL_T (l : List ClassV) (cp : List ByteArray) : ∀ (r : List ItemV) (deep : Int), valL l cp r deep = valTL l cp (plL r) deep
  | [], _ => by rw [valL, plL, valTL]
  | p :: r, deep => by rw [valL, plL, valTL, valI_T l p (deep + 1), valL_T l cp r deep, pl_cls]
end
theorem valTL_app (l : List ClassV) (cp : List ByteArray) (deep : Int) : ∀ a b : List IT, valTL l cp (a ++ b) deep = (valTL l cp a deep && valTL l cp b deep)
  | [], b => by rw [List.nil_append, valTL, Bool.true_and]
  | p :: a, b => by rw [List.cons_append, valTL, valTL, valTL_app l cp deep a b]; simp only [Bool.and_assoc]
mutual
theorem less_val {l : List ClassV} (hg : gramOk l = true) : ∀ (y x : IT) (deep : Int), LessP (gramM l) y x → valT l x deep = true → valT l y deep = true
  | .mk cls says parts, x, deep, h, hv => by
    rw [LessP] at h
    obtain ⟨xc, xs, xp⟩ := x
    simp only [IT.cls, IT.says, IT.parts] at h
    rw [valT] at hv ⊢
    rw [h.1]
    cases hc : clsOf l xc with
    | none => rw [hc] at hv; cases hv
    | some c =>
      rw [hc] at hv
      simp only at hv ⊢
      split at hv
      · cases hv
      · rename_i hn
        simp only [Bool.and_eq_true] at hv
        have htr : traitsOf (gramM l) cls = c.traits := by unfold traitsOf; rw [getL_gram hg, h.1, hc]; rfl
        have hls := h.2.1
        rw [htr] at hls
        have hln := lessL_len _ _ _ h.2.2
        have hlen : says.length = c.traits.length := by have := hls.1; omega
        rw [if_neg (by omega), Bool.and_eq_true]
        refine ⟨(saysOk_iff c.traits says hlen).2 (fun k hk => ?_), lessL_val hg c.parts parts xp deep h.2.2 hv.2⟩
        rcases hls.2 k (by rw [← hls.1]; exact hk) with h1 | h1
        · rw [h1]; exact (saysOk_iff c.traits xs (by omega)).1 hv.1 k (by rw [← hls.1]; exact hk)
        · rw [h1.1]; unfold saysOne; rw [h1.2]; rfl
theorem lessL_val {l : List ClassV} (hg : gramOk l = true) (cp : List ByteArray) : ∀ (r bs : List IT) (deep : Int), LessL (gramM l) r bs → valTL l cp bs deep = true → valTL l cp r deep = true
  | [], _, _, _, _ => by rw [valTL]
  | p :: r, bs, deep, h, hv => by
    rw [LessL] at h
    obtain ⟨b1, q, b2, e, h1, h2⟩ := h
    rw [e, valTL_app, valTL] at hv
    simp only [Bool.and_eq_true] at hv
    have hpc : p.cls = q.cls := ((LessP_iff _ p q).1 h1).1
    rw [valTL, hpc, hv.2.1.1, less_val hg p q (deep + 1) h1 hv.2.1.2, lessL_val hg cp r b2 deep h2 hv.2.2]; rfl
end
theorem cls_uniq {l : List ClassV} (hg : gramOk l = true) {c : ClassV} (hc : c ∈ l) : clsOf l c.name = some c := by
  simp only [gramOk, Bool.and_eq_true] at hg
  have hn := words_nd hg.2.1
  unfold namesC at hn
  clear hg
  induction l with
  | nil => cases hc
  | cons d l ih =>
    unfold clsOf
    rw [List.map_cons, List.nodup_cons] at hn
    rw [List.find?_cons]
    rcases List.mem_cons.1 hc with h | h
    · rw [← h, decide_eq_true rfl]
    · rw [decide_eq_false]
      · exact ih h hn.2
      · intro e
        exact hn.1 (List.mem_map.2 ⟨c, h, e.symm⟩)
/-- what the law asks of the description that says less -/
theorem more_law {l : List ClassV} {y x z : ItemV} (hx : (askIE l [x] != 0) = false) (hz : (askIE l [z] != 0) = false) (h : LessP (gramM l) y.pl x.pl) :
    (askIE l [y, x] = 0 ∧ askIE l [y, z] = 0 ∧ askIE l [x, z] = 0 ∧ askIE l [y] = 0) ∧ CovT l y x = true ∧ (CovT l y z || !(CovT l x z)) = true ∧ CntI l y ≤ CntI l x ∧ CntS l y ≤ CntS l x ∧ askIE l [x] = 0 := by
  have ox := askIE_ok hx
  have oz := askIE_ok hz
  have hg : gramOk l = true := by simp only [askIOk, Bool.and_eq_true] at ox; exact ox.1
  have hxz := ask2_3 hx hz
  have ix : itemOk l x = true := by simp only [askIOk, Bool.and_eq_true, List.all_eq_true] at ox; exact ox.2 x (by simp)
  have iz : itemOk l z = true := by simp only [askIOk, Bool.and_eq_true, List.all_eq_true] at oz; exact oz.2 z (by simp)
  have vx := ix
  rw [itemOk_ref hg, Bool.and_eq_true, decide_eq_true_eq, valI_T] at vx
  have vy := less_val hg y.pl x.pl 1 h vx.1
  have nx := ask_N ox x (by simp)
  have nz := ask_N oz z (by simp)
  have ny : OkN (gramM l) y.pl := val_N hg y 1 (by rw [valI_T]; exact vy)
  have cyx := less_cov _ _ h
  have gr := (cov_grow _ _ ny nx cyx).1
  have iy : itemOk l y = true := by
    rw [itemOk_ref hg, valI_T, vy, decide_eq_true (by omega)]; rfl
  have oy : askIOk l [y] = true := by simp [askIOk, hg, iy]
  have e1 : ∀ a b : ItemV, itemOk l a = true → itemOk l b = true → askIE l [a, b] = 0 ∧ CovT l a b = covI a b := by
    intro a b ha hb
    have : askIOk l [a, b] = true := by simp [askIOk, hg, ha, hb]
    refine ⟨by simp [askIE, hg, ha, hb], ?_⟩
    unfold CovT; rw [this, Bool.true_and]
  refine ⟨⟨(e1 y x iy ix).1, (e1 y z iy iz).1, (e1 x z ix iz).1, by simp [askIE, hg, iy]⟩, ?_, ?_, ?_, ?_, by simp [askIE, hg, ix]⟩
  · rw [(e1 y x iy ix).2]; exact (covI_iff y x).2 cyx
  · rw [(e1 y z iy iz).2, (e1 x z ix iz).2]
    cases hc : covI x z with
    | false => simp
    | true => rw [(covI_iff y z).2 (cov_trans _ _ _ ny nx nz cyx ((covI_iff x z).1 hc))]; rfl
  · unfold CntI; rw [oy, ox]; exact gr.1
  · unfold CntS; rw [oy, ox]; exact gr.2
end Go.Proofs.Ytlfbghkcfmcnlaa
namespace Go.Proofs.Ytlfbghkcfmcnlaa
open Go.Sx Go.RowKit
set_option maxRecDepth 20000

end Go.Proofs.Ytlfbghkcfmcnlaa
namespace Go.Proofs.Ytlfbghkcfmcnlaa
open Go.Sx Go.RowKit
set_option maxRecDepth 20000
set_option maxHeartbeats 4000000 in
theorem k_less1 (l : List ClassV) (A : Option Addr) (c : Nat) (x : ItemV) (bits : List Int) (Ab : Option Addr) (cb : Nat) (deep : Int) (w : World) (hl : Rd w 4 encCl A l) (hgc : ∀ c ∈ l, GoodC w c) (hb0 : Rd w 1 enInt Ab bits) (hb8 : bits.length * 8 ≤ 140737488351232) (hgo : gramOk l = true) (hx : GoodI w x) (ho : OkT (gramM l) x.pl) (hd : 0 ≤ deep ∧ deep ≤ 3) (ih : ∀ p ∈ x.parts, ∀ (w1 : World) (dp : Int), Grow w w1 → 0 ≤ dp ∧ dp ≤ 3 → Calls Try.prog 37 #[.slice A l.length c, evI p, .slice Ab bits.length cb, .int .i64 dp] w1 (fun e w' => ∃ y : ItemV, e = .returned (evI y) ∧ Grow w1 w' ∧ LessP (gramM l) y.pl p.pl ∧ GoodF (fun i => w1.heap.size ≤ i ∧ i < w'.heap.size) w' y)) : Calls Try.prog 37 #[.slice A l.length c, evI x, .slice Ab bits.length cb, .int .i64 deep] w (fun e w' => ∃ y : ItemV, e = .returned (evI y) ∧ Grow w w' ∧ LessP (gramM l) y.pl x.pl ∧ GoodF (fun i => w.heap.size ≤ i ∧ i < w'.heap.size) w' y) := by
  have hl1 := hx.rs.len
  have hl2 := hx.rp.len
  have h12 := gram_12 hgo
  have hp6 : x.parts.length ≤ 6 := by have := ho.few; rw [pl_parts, List.length_map] at this; exact this
  obtain ⟨cc, hgc0, hsl, ht8, htn⟩ := ho.get
  rw [pl_cls] at hgc0
  rw [pl_says] at hsl
  have hcc : clsOf l x.cls = some cc := by rw [← getL_gram hgo]; exact hgc0
  have htr : traitsOf (gramM l) x.cls = cc.traits := by unfold traitsOf; rw [hgc0]; rfl
  refine enter_pure (args := [.slice A l.length c, evI x, .slice Ab bits.length cb, .int .i64 deep]) [sl (fun b => b < w.heap.size) 4 encCl A l, sl (fun b => b < w.heap.size) 1 enInt Ab bits] Try.func37 rfl (by rw [Try.ntmps37]; simp) (fun g hg => by simp at hg; rcases hg with rfl | rfl; exact ⟨hl, fun _ h => h⟩; exact ⟨hb0, fun _ h => h⟩) ?_
  refine cj_seq (cj_region ?_)
  refine oj_box rfl rfl rfl (fun b5 => ?_)
  refine oj_alloc Try.zeroValue26 rfl rfl (fun b8 => ?_)
  refine oj_nil ?_
  refine ej_th ?_
  refine cj_cuti (X := Nat × Option Addr × Nat) [(0, _), (2, _), (3, _), (5, _), (8, _)] ⟨rfl, rfl, rfl, rfl, rfl, trivial⟩ (fun ⟨b9, A18, c18⟩ => True) (fun ⟨b9, A18, c18⟩ => [(9, .pointer (some ⟨b9, 0, none⟩))]) (fun ⟨b9, A18, c18⟩ => [ow 9 1 enStr A18 c18 x.says, ownB b9 (cellsB 26 [.string x.cls, .slice A18 x.says.length c18, .slice none 0 0]), ownB b8 (cellsB 26 [.string ⟨#[]⟩, .slice none 0 0, .slice none 0 0]), ownB b5 (cellsB 26 [.string x.cls, .slice x.As x.says.length x.cs, .slice x.Ap x.parts.length x.cp])]) (fun ⟨b9, A18, c18⟩ => [sl (fun b => b < w.heap.size) 4 encCl A l, sl (fun b => b < w.heap.size) 1 enInt Ab bits]) ?_ ?_
  · refine cj_rd hx.rs (fun _ h => h) ?_
    refine cj_plan 8 (by kernel_rfl) (by kernel_rfl) ?_
    refine pl_y 0 rfl (y_fa0 fa26_0 rfl) rfl rfl rfl rfl (by kernel_rfl) ?_
    refine pl_y 1 rfl (y_load1 Try.isAgg9 rfl rfl) rfl rfl rfl rfl (by kernel_rfl) ?_
    refine pl_y 2 rfl (y_fa fa26_1 rfl) rfl rfl rfl rfl (by kernel_rfl) ?_
    refine pl_y 3 rfl (y_load1 Try.isAgg23 rfl rfl) rfl rfl rfl rfl (by kernel_rfl) ?_
    refine pl_w2 4 6 (by kernel_rfl) rfl rfl (pl_fire rfl rfl rfl (by kernel_rfl) ?_) (pl_fire rfl rfl rfl (by kernel_rfl) ?_)
    · refine oj_callO (fun A c => .slice A x.says.length c) 9 1 enStr x.says Try.call81 rfl (fun w hp => k_OwnTexts x.says x.As x.cs w hp.rd (by omega)) rfl (fun A18 c18 => ?_)
      refine oj_nil ?_
      refine ej_pl (lt_w (by kernel_rfl) (lt_y (y_fa fa26_1 rfl) rfl (lt_y (y_load1 Try.isAgg9 rfl rfl) rfl (lt_y (y_fa0 fa26_0 rfl) rfl (lt_nil))))) ?_
      refine pl_y 5 rfl (y_build (cs := [.string x.cls, .slice A18 x.says.length c18, .slice none 0 0]) st26 rfl (by kernel_rfl)) rfl rfl rfl rfl (by kernel_rfl) ?_
      refine pl_w1 6 (by kernel_rfl) rfl rfl (pl_fire rfl rfl rfl (by kernel_rfl) ?_)
      refine oj_alloc Try.zeroValue26 rfl rfl (fun b9 => ?_)
      refine oj_nil ?_
      refine ej_pl (lt_y (y_build (cs := [.string x.cls, .slice A18 x.says.length c18, .slice none 0 0]) st26 rfl (by kernel_rfl)) rfl (lt_y (y_load1 Try.isAgg23 rfl rfl) rfl (lt_y (y_fa fa26_1 rfl) rfl (lt_y (y_load1 Try.isAgg9 rfl rfl) rfl (lt_y (y_fa0 fa26_0 rfl) rfl (lt_nil)))))) ?_
      refine pl_w1 7 (by kernel_rfl) rfl rfl (pl_fire rfl rfl rfl (by kernel_rfl) ?_)
      refine oj_store rfl rfl rfl rfl Try.sizeOf26 rfl ?_
      refine oj_nil ?_
      refine ej_pl (lt_w (by kernel_rfl) (lt_w (by kernel_rfl) (lt_w (by kernel_rfl) (lt_w (by kernel_rfl) (lt_w (by kernel_rfl) (lt_nil)))))) ?_
      refine pl_end (by kernel_rfl) ?_
      first | exact ej_ct ⟨b9, A18, c18⟩ trivial ⟨rfl, rfl, rfl, rfl, rfl, rfl, trivial⟩ | exact ej_swapO (ej_ct ⟨b9, A18, c18⟩ trivial ⟨rfl, rfl, rfl, rfl, rfl, rfl, trivial⟩)
    · refine oj_alloc Try.zeroValue26 rfl rfl (fun b9 => ?_)
      refine oj_nil ?_
      refine ej_pl (lt_y (y_load1 Try.isAgg23 rfl rfl) rfl (lt_y (y_fa fa26_1 rfl) rfl (lt_y (y_load1 Try.isAgg9 rfl rfl) rfl (lt_y (y_fa0 fa26_0 rfl) rfl (lt_nil))))) ?_
      refine pl_w1 4 (by kernel_rfl) rfl rfl (pl_fire rfl rfl rfl (by kernel_rfl) ?_)
      refine oj_callO (fun A c => .slice A x.says.length c) 9 1 enStr x.says Try.call81 rfl (fun w hp => k_OwnTexts x.says x.As x.cs w hp.rd (by omega)) rfl (fun A18 c18 => ?_)
      refine oj_nil ?_
      refine ej_pl (lt_w (by kernel_rfl) (lt_y (y_fa fa26_1 rfl) rfl (lt_y (y_load1 Try.isAgg9 rfl rfl) rfl (lt_y (y_fa0 fa26_0 rfl) rfl (lt_nil))))) ?_
      refine pl_y 5 rfl (y_build (cs := [.string x.cls, .slice A18 x.says.length c18, .slice none 0 0]) st26 rfl (by kernel_rfl)) rfl rfl rfl rfl (by kernel_rfl) ?_
      refine pl_w1 7 (by kernel_rfl) rfl rfl (pl_fire rfl rfl rfl (by kernel_rfl) ?_)
      refine oj_store rfl rfl rfl rfl Try.sizeOf26 rfl ?_
      refine oj_nil ?_
      refine ej_pl (lt_w (by kernel_rfl) (lt_w (by kernel_rfl) (lt_w (by kernel_rfl) (lt_w (by kernel_rfl) (lt_w (by kernel_rfl) (lt_nil)))))) ?_
      refine pl_end (by kernel_rfl) ?_
      first | exact ej_ct ⟨b9, A18, c18⟩ trivial ⟨rfl, rfl, rfl, rfl, rfl, rfl, trivial⟩ | exact ej_swapO (ej_ct ⟨b9, A18, c18⟩ trivial ⟨rfl, rfl, rfl, rfl, rfl, rfl, trivial⟩)
  · rintro ⟨b9, A18, c18⟩ -
    dsimp only [List.cons_append, List.nil_append]
    refine cj_seq (cj_seq ?_)
    refine cj_regionG (gj_step (y_assign rfl) rfl rfl rfl (gj_nil ?_))
    refine ej_th (cj_block ?_)
    refine cj_lpi (X := Nat × List ByteArray) [(9, _), (0, _), (2, _), (3, _), (5, _), (8, _)] (fun ⟨i, sv⟩ => i ≤ l.length ∧ LessS cc.traits sv x.says) (fun ⟨i, sv⟩ => [(10, .int .i64 i)]) (fun ⟨i, sv⟩ => [ow 9 1 enStr A18 c18 sv, ownB b9 (cellsB 26 [.string x.cls, .slice A18 sv.length c18, .slice none 0 0]), ownB b8 (cellsB 26 [.string ⟨#[]⟩, .slice none 0 0, .slice none 0 0]), ownB b5 (cellsB 26 [.string x.cls, .slice x.As x.says.length x.cs, .slice x.Ap x.parts.length x.cp])]) (fun ⟨i, sv⟩ => [sl (fun b => b < w.heap.size) 4 encCl A l, sl (fun b => b < w.heap.size) 1 enInt Ab bits]) (fun ⟨i, sv⟩ => l.length - i) (0, x.says) (⟨Nat.zero_le _, LessS.refl _ _⟩) ⟨rfl, rfl, rfl, rfl, rfl, rfl, rfl, trivial⟩ ?_
    rintro ⟨i, sv⟩ ⟨hi, hls⟩
    dsimp only [List.cons_append, List.nil_append]
    refine cj_seq (cj_seq ?_)
    refine cj_regionG (gj_step (y_move rfl) rfl rfl rfl (gj_step (y_move rfl) rfl rfl rfl (gj_step (y_lenA Try.underlying22 rfl) rfl rfl rfl (gj_step (y_lss rfl rfl) rfl rfl rfl (gj_nil ?_)))))
    refine ej_th ?_
    refine cj_cond rfl (fun h23 => ?_) (fun h23 => ?_)
    · have h23b := h23
      try simp only [sxb] at h23
      obtain ⟨c, hc⟩ : ∃ c, l[i]? = some c := ⟨_, List.getElem?_eq_getElem (by omega)⟩
      have hcm := List.mem_of_getElem? hc
      have hg1 := hgc c hcm
      have hl3 := hg1.rt.len
      refine cj_rd hg1.rt (fun _ h => h) ?_
      refine cj_skip (ej_th (cj_seq (cj_block (cj_seq ?_))))
      refine cj_regionG (gj_step (y_assign rfl) rfl rfl rfl (gj_nil ?_))
      refine ej_th (cj_block ?_)
      refine cj_lpi (X := Nat × List ByteArray) [(10, _), (9, _), (0, _), (2, _), (3, _), (5, _), (8, _)] (fun ⟨k, sv⟩ => k ≤ 100 ∧ LessS cc.traits sv x.says) (fun ⟨k, sv⟩ => [(11, .int .i64 k)]) (fun ⟨k, sv⟩ => [ow 9 1 enStr A18 c18 sv, ownB b9 (cellsB 26 [.string x.cls, .slice A18 sv.length c18, .slice none 0 0]), ownB b8 (cellsB 26 [.string ⟨#[]⟩, .slice none 0 0, .slice none 0 0]), ownB b5 (cellsB 26 [.string x.cls, .slice x.As x.says.length x.cs, .slice x.Ap x.parts.length x.cp])]) (fun ⟨k, sv⟩ => [sl (fun b => b < w.heap.size) 3 encTr c.At c.traits, sl (fun b => b < w.heap.size) 4 encCl A l, sl (fun b => b < w.heap.size) 1 enInt Ab bits]) (fun ⟨k, sv⟩ => 100 - k) (0, sv) (⟨Nat.zero_le _, hls⟩) ⟨rfl, rfl, rfl, rfl, rfl, rfl, rfl, rfl, trivial⟩ ?_
      rintro ⟨k, sv⟩ ⟨hk, hls⟩
      dsimp only [List.cons_append, List.nil_append]
      have hsvl := hls.1
      refine cj_seq (cj_seq ?_)
      refine cj_draw (by kernel_rfl) (by kernel_rfl) (gj_step (y_move rfl) rfl rfl rfl (gj_step (y_move rfl) rfl rfl rfl (gj_step (y_ixR (reads_sl) Try.underlying22 Try.sizeOf114 rfl rfl (⟨by omega, by omega⟩)) rfl rfl rfl (gj_step (y_faE fa114_0 rfl) rfl rfl rfl (gj_step (y_ld1 (reads_sl) Try.isAgg9 rfl (hc) rfl) rfl rfl rfl (gj_step (y_fa0 fa26_0 rfl) rfl rfl rfl (gj_step (y_load1 Try.isAgg9 rfl rfl) rfl rfl rfl (gj_step (y_eqlS rfl rfl) rfl rfl rfl (gj_step (y_move rfl) rfl rfl rfl (gj_g 5 34 39 rfl rfl rfl rfl (fun hg34 => gj_yes rfl rfl rfl (y_move rfl) rfl rfl (gj_yes rfl rfl rfl (y_fa fa26_1 rfl) rfl rfl (gj_yes rfl rfl rfl (y_load1 Try.isAgg23 rfl rfl) rfl rfl (gj_yes rfl rfl rfl (y_lenA Try.underlying23 rfl) rfl rfl (gj_yes rfl rfl rfl (y_lss rfl rfl) rfl rfl (gj_nil rfl)))))) (gj_step (y_and rfl rfl rfl) rfl rfl rfl (gj_step (y_move rfl) rfl rfl rfl (gj_g 8 41 49 rfl rfl rfl rfl (fun hg41 => gj_yes rfl rfl rfl (y_move rfl) rfl rfl (gj_yes rfl rfl rfl (y_move rfl) rfl rfl (gj_yes rfl rfl rfl (y_move rfl) rfl rfl (gj_yes rfl rfl rfl (y_ixR (reads_sl) Try.underlying22 Try.sizeOf114 rfl rfl (⟨by omega, by omega⟩)) rfl rfl (gj_yes rfl rfl rfl (y_faE fa114_1 rfl) rfl rfl (gj_yes rfl rfl rfl (y_ld1 (reads_sl) Try.isAgg112 rfl (hc) rfl) rfl rfl (gj_yes rfl rfl rfl (y_lenA Try.underlying112 rfl) rfl rfl (gj_yes rfl rfl rfl (y_lss rfl rfl) rfl rfl (gj_nil rfl))))))))) (gj_step (y_and rfl rfl rfl) rfl rfl rfl (gj_nil ?_)))))))))))))))
      refine ej_th ?_
      refine cj_cond rfl (fun h50 => ?_) (fun h50 => ?_)
      · have h50b := h50
        try simp only [sxb] at h50
        rw [Bool.and_eq_true, Bool.and_eq_true, decide_eq_true_eq, decide_eq_true_eq] at h50b
        have hce : cc = c := by
          have h9 := cls_uniq hgo hcm
          rw [bytes_eq h50b.1.1, hcc] at h9
          injection h9
        obtain ⟨t, ht⟩ : ∃ t, c.traits[k]? = some t := ⟨_, List.getElem?_eq_getElem (by omega)⟩
        refine cj_skip (ej_th (cj_seq (cj_block (cj_seq ?_))))
        refine cj_regionG ?_
        refine gj_step (y_move rfl) rfl rfl rfl (gj_step (y_move rfl) rfl rfl rfl (gj_step (y_ixR (reads_sl) Try.underlying22 Try.sizeOf114 rfl rfl (⟨by omega, by omega⟩)) rfl rfl rfl (gj_step (y_faE fa114_1 rfl) rfl rfl rfl (gj_step (y_ld1 (reads_sl) Try.isAgg112 rfl (hc) rfl) rfl rfl rfl (gj_step (y_move rfl) rfl rfl rfl (gj_step (y_ixR (reads_sl) Try.underlying112 Try.sizeOf116 rfl rfl (⟨by omega, by omega⟩)) rfl rfl rfl (gj_step (y_faE fa116_2 rfl) rfl rfl rfl (gj_step (y_ld1 (reads_sl) Try.isAgg4 rfl (ht) rfl) rfl rfl rfl (gj_step (y_not rfl) rfl rfl rfl (gj_step (y_move rfl) rfl rfl rfl (?_)))))))))))
        refine gj_g 8 63 71 rfl rfl rfl rfl (fun hg63 => gj_yes rfl rfl rfl (y_move rfl) rfl rfl (gj_yes rfl rfl rfl (y_move rfl) rfl rfl (gj_yes rfl rfl rfl (y_move rfl) rfl rfl (gj_yes rfl rfl rfl (y_mul rfl rfl (by omega)) rfl rfl (gj_yes rfl rfl rfl (y_add rfl rfl (by omega)) rfl rfl (gj_yes rfl rfl rfl (y_call Try.call33 rfl (fun w hp => k_Pick bits Ab cb _ w hp.rd hb8)) rfl rfl (gj_yes rfl rfl rfl (y_call Try.call32 rfl (fun w hp => k_Ring _ 3 w (by omega))) rfl rfl (gj_yes rfl rfl rfl (y_eql rfl rfl) rfl rfl (gj_nil rfl))))))))) ?_
        refine gj_step (y_and rfl rfl rfl) rfl rfl rfl (?_)
        refine gj_nil ?_
        refine ej_th ?_
        refine cj_cond rfl (fun h72 => ?_) (fun h72 => ?_)
        · have h72b := h72
          try simp only [sxb] at h72
          rw [Bool.and_eq_true] at h72b
          have hls2 : LessS cc.traits (sv.set k ⟨#[]⟩) x.says := hls.set (by omega) (by rw [hce, gd_of default ht]; exact not_t h72b.1)
          have hsl2 : sv.length = (sv.set k ⟨#[]⟩).length := by simp
          refine cj_seq ?_
          refine cj_regionG (gj_step (y_fa fa26_1 rfl) rfl rfl rfl (gj_step (y_load1 Try.isAgg23 rfl rfl) rfl rfl rfl (gj_step (y_assign rfl) rfl rfl rfl (gj_nil ?_))))
          refine ej_th (cj_region ?_)
          refine oj_step (y_move rfl) rfl rfl rfl ?_
          refine oj_step (y_move rfl) rfl rfl rfl ?_
          refine oj_step (y_ixR (reads_ow (xs := sv) enStr_len) Try.underlying23 Try.sizeOf9 rfl rfl ⟨by omega, by omega⟩) rfl rfl rfl ?_
          refine oj_storeE (i := k) (u := ⟨#[]⟩) rfl rfl rfl rfl Try.sizeOf9 (fun _ => rfl) (by first | omega | (simp only [List.length_set]; omega)) ?_
          refine oj_nil ?_
          refine ej_blk (ej_th ?_)
          refine cj_regionG (gj_step (y_move rfl) rfl rfl rfl (gj_step (y_add rfl rfl (by omega)) rfl rfl rfl (gj_step (y_assign rfl) rfl rfl rfl (gj_nil ?_))))
          rw [hsl2]
          exact ej_nx (k + 1, sv.set k ⟨#[]⟩) (by simp only; omega) ⟨by first | omega | (simp only; omega), hls2⟩ ⟨rfl, rfl, rfl, rfl, rfl, rfl, rfl, rfl, trivial⟩
        · have h72b := h72
          try simp only [sxb] at h72
          refine cj_skip (ej_blk (ej_th ?_))
          refine cj_regionG (gj_step (y_move rfl) rfl rfl rfl (gj_step (y_add rfl rfl (by omega)) rfl rfl rfl (gj_step (y_assign rfl) rfl rfl rfl (gj_nil ?_))))
          exact ej_nx (k + 1, sv) (by simp only; omega) ⟨by first | omega | (simp only; omega), hls⟩ ⟨rfl, rfl, rfl, rfl, rfl, rfl, rfl, rfl, trivial⟩
      · have h50b := h50
        try simp only [sxb] at h50
        refine cj_exit (ej_then_exit (ej_then_exit (ej_blk_hit (ej_blk (ej_th ?_)))))
        refine cj_regionG (gj_step (y_move rfl) rfl rfl rfl (gj_step (y_add rfl rfl (by omega)) rfl rfl rfl (gj_step (y_assign rfl) rfl rfl rfl (gj_nil ?_))))
        exact ej_nx (i + 1, sv) (by simp only; omega) ⟨by first | omega | (simp only; omega), hls⟩ ⟨rfl, rfl, rfl, rfl, rfl, rfl, rfl, trivial⟩
    · have h23b := h23
      try simp only [sxb] at h23
      refine cj_exit (ej_then_exit (ej_then_exit (ej_blk_hit (ej_th (cj_seq (cj_seq ?_))))))
      refine cj_regionG (gj_step (y_assign rfl) rfl rfl rfl (gj_nil ?_))
      refine ej_th (cj_block ?_)
      refine cj_ownNil 26 3 encIt ?_
      refine cj_rd hx.rp (fun _ h => h) ?_
      refine cj_addS (itF (fun _ => False) []) (fun w hp => ⟨fun z hz => (by cases hz), fun i hi => hi.elim⟩) ?_
      refine cj_eqO [ow 26 3 encIt none 0 ([] : List ItemV), ow 9 1 enStr A18 c18 sv, ownB b9 (cellsB 26 [.string x.cls, .slice A18 sv.length c18, .slice none ([] : List ItemV).length 0]), ownB b8 (cellsB 26 [.string ⟨#[]⟩, .slice none 0 0, .slice none 0 0]), ownB b5 (cellsB 26 [.string x.cls, .slice x.As x.says.length x.cs, .slice x.Ap x.parts.length x.cp])] rfl ?_
      refine cj_lpi (X := Nat × Option Addr × Nat × List ItemV × (Nat → Prop)) [(9, _), (0, _), (2, _), (3, _), (5, _), (8, _)] (fun ⟨j, A1, c1, ys, fp⟩ => j ≤ x.parts.length ∧ LessL (gramM l) (ys.map ItemV.pl) ((x.parts.take j).map ItemV.pl) ∧ ys.length ≤ j ∧ ∀ i, fp i → w.heap.size ≤ i) (fun ⟨j, A1, c1, ys, fp⟩ => [(13, .int .i64 j)]) (fun ⟨j, A1, c1, ys, fp⟩ => [ow 26 3 encIt A1 c1 ys, ow 9 1 enStr A18 c18 sv, ownB b9 (cellsB 26 [.string x.cls, .slice A18 sv.length c18, .slice A1 ys.length c1]), ownB b8 (cellsB 26 [.string ⟨#[]⟩, .slice none 0 0, .slice none 0 0]), ownB b5 (cellsB 26 [.string x.cls, .slice x.As x.says.length x.cs, .slice x.Ap x.parts.length x.cp])]) (fun ⟨j, A1, c1, ys, fp⟩ => [itF fp ys, sl (fun b => b < w.heap.size) 3 encIt x.Ap x.parts, sl (fun b => b < w.heap.size) 4 encCl A l, sl (fun b => b < w.heap.size) 1 enInt Ab bits]) (fun ⟨j, A1, c1, ys, fp⟩ => x.parts.length - j) (0, none, 0, [], fun _ => False) (⟨Nat.zero_le _, by rw [List.map_nil, LessL]; trivial, Nat.le_refl _, fun i h => h.elim⟩) ⟨rfl, rfl, rfl, rfl, rfl, rfl, rfl, trivial⟩ ?_
      rintro ⟨j, A1, c1, ys, fp⟩ ⟨hj, hys, hyl, hfn⟩
      dsimp only [List.cons_append, List.nil_append]
      refine cj_seq (cj_seq ?_)
      refine cj_regionG (gj_step (y_move rfl) rfl rfl rfl (gj_step (y_fa fa26_2 rfl) rfl rfl rfl (gj_step (y_load1 Try.isAgg24 rfl rfl) rfl rfl rfl (gj_step (y_lenA Try.underlying24 rfl) rfl rfl rfl (gj_step (y_lss rfl rfl) rfl rfl rfl (gj_step (y_move rfl) rfl rfl rfl (gj_g 2 83 85 rfl rfl rfl rfl (fun hg83 => gj_yes rfl rfl rfl (y_move rfl) rfl rfl (gj_yes rfl rfl rfl (y_gtr rfl rfl) rfl rfl (gj_nil rfl))) (gj_step (y_and rfl rfl rfl) rfl rfl rfl (gj_nil ?_)))))))))
      refine ej_th ?_
      refine cj_cond rfl (fun h86 => ?_) (fun h86 => ?_)
      · have h86b := h86
        try simp only [sxb] at h86
        rw [Bool.and_eq_true, decide_eq_true_eq, decide_eq_true_eq] at h86b
        obtain ⟨q, hq⟩ : ∃ q, x.parts[j]? = some q := ⟨_, List.getElem?_eq_getElem (by omega)⟩
        refine cj_skip (ej_th (cj_seq (cj_block (cj_seq ?_))))
        refine cj_regionG ?_
        refine gj_step (y_move rfl) rfl rfl rfl (gj_step (y_move rfl) rfl rfl rfl (gj_step (y_move rfl) rfl rfl rfl (gj_step (y_mul rfl rfl (by omega)) rfl rfl rfl (gj_step (y_add rfl rfl (by omega)) rfl rfl rfl (?_)))))
        refine gj_step (y_call Try.call33 rfl (fun w hp => k_Pick bits Ab cb _ w hp.rd hb8)) rfl rfl rfl ?_
        refine gj_step (y_call Try.call32 rfl (fun w hp => k_Ring _ 4 w (by omega))) rfl rfl rfl ?_
        refine gj_step (y_neq rfl rfl) rfl rfl rfl (?_)
        refine gj_nil ?_
        refine ej_th ?_
        refine cj_cond rfl (fun h96 => ?_) (fun h96 => ?_)
        · have h96b := h96
          try simp only [sxb] at h96
          refine cj_plan 16 (by kernel_rfl) (by kernel_rfl) ?_
          refine pl_y 0 rfl (y_fa fa26_2 rfl) rfl rfl rfl rfl (by kernel_rfl) ?_
          refine pl_y 1 rfl (y_load1 Try.isAgg24 rfl rfl) rfl rfl rfl rfl (by kernel_rfl) ?_
          refine pl_y 2 rfl (y_move rfl) rfl rfl rfl rfl (by kernel_rfl) ?_
          refine pl_y 3 rfl (y_fa fa26_2 rfl) rfl rfl rfl rfl (by kernel_rfl) ?_
          refine pl_y 4 rfl (y_load1 Try.isAgg24 rfl rfl) rfl rfl rfl rfl (by kernel_rfl) ?_
          refine pl_y 5 rfl (y_move rfl) rfl rfl rfl rfl (by kernel_rfl) ?_
          refine pl_y 6 rfl (y_ixR (reads_sl) Try.underlying24 Try.sizeOf26 rfl rfl (⟨by omega, by omega⟩)) rfl rfl rfl rfl (by kernel_rfl) ?_
          refine pl_y 7 rfl (y_ldW (reads_sl) Try.isAgg26 Try.sizeOf26 rfl (hq) (fun _ => rfl)) rfl rfl rfl rfl (by kernel_rfl) ?_
          refine pl_y 8 rfl (y_move rfl) rfl rfl rfl rfl (by kernel_rfl) ?_
          refine pl_y 9 rfl (y_move rfl) rfl rfl rfl rfl (by kernel_rfl) ?_
          refine pl_y 10 rfl (y_sub rfl rfl (by omega)) rfl rfl rfl rfl (by kernel_rfl) ?_
          refine pl_w1 11 (by kernel_rfl) rfl rfl (pl_fire rfl rfl rfl (by kernel_rfl) ?_)
          refine oj_call (X := { z : ItemV × Nat × Nat // LessP (gramM l) z.1.pl q.pl ∧ w.heap.size ≤ z.2.1 }) (fun z => evI z.1.1) (fun _ => []) (fun z => [itF (fun i => z.1.2.1 ≤ i ∧ i < z.1.2.2) [z.1.1]]) Try.call37 rfl (fun w1 hp => (ih q (List.mem_of_getElem? hq) w1 (deep - 1) hp.below (by omega)).mono fun e w2 ⟨y, he, hg, hy, hG⟩ => ⟨⟨(y, w1.heap.size, w2.heap.size), hy, hp.size⟩, he, hg, by simp, by simp, fun f hf => by
            rw [List.mem_singleton.1 hf]
            exact ⟨fun z hz => by rw [List.mem_singleton.1 hz]; exact hG, fun i hi => ⟨hi.1, hi.2, by simp⟩⟩⟩) rfl ?_
          rintro ⟨⟨y, n1, n2⟩, hy, hn1⟩
          dsimp only [List.cons_append, List.nil_append] at hy hn1 ⊢
          refine oj_nil ?_
          refine ej_pl (lt_w (by kernel_rfl) (lt_y (y_move rfl) rfl (lt_w (by kernel_rfl) (lt_w (by kernel_rfl) (lt_y (y_ixR (reads_sl) Try.underlying24 Try.sizeOf26 rfl rfl (⟨by omega, by omega⟩)) rfl (lt_y (y_move rfl) rfl (lt_y (y_load1 Try.isAgg24 rfl rfl) rfl (lt_y (y_fa fa26_2 rfl) rfl (lt_w (by kernel_rfl) (lt_y (y_load1 Try.isAgg24 rfl rfl) rfl (lt_y (y_fa fa26_2 rfl) rfl (lt_nil)))))))))))) ?_
          refine pl_w1 12 (by kernel_rfl) rfl rfl (pl_fire rfl rfl rfl (by kernel_rfl) ?_)
          refine oj_buildSlice (cs := [.string y.cls, .slice y.As y.says.length y.cs, .slice y.Ap y.parts.length y.cp]) [.string ⟨#[]⟩, .slice none 0 0, .slice none 0 0] Try.underlying24 Try.sizeOf26 Try.zeroValue26 rfl rfl (by kernel_rfl) (by kernel_rfl) rfl (fun b109 => ?_)
          refine oj_nil ?_
          refine ej_pl (lt_y (y_sub rfl rfl (by omega)) rfl (lt_y (y_move rfl) rfl (lt_y (y_move rfl) rfl (lt_y (y_ldW (reads_sl) Try.isAgg26 Try.sizeOf26 rfl (hq) (fun _ => rfl)) rfl (lt_y (y_ixR (reads_sl) Try.underlying24 Try.sizeOf26 rfl rfl (⟨by omega, by omega⟩)) rfl (lt_y (y_move rfl) rfl (lt_y (y_load1 Try.isAgg24 rfl rfl) rfl (lt_y (y_fa fa26_2 rfl) rfl (lt_y (y_move rfl) rfl (lt_y (y_load1 Try.isAgg24 rfl rfl) rfl (lt_y (y_fa fa26_2 rfl) rfl (lt_nil)))))))))))) ?_
          refine pl_w1 13 (by kernel_rfl) rfl rfl (pl_fire rfl rfl rfl (by kernel_rfl) ?_)
          refine oj_append  el24 (fun _ => rfl) encIt_one rfl rfl rfl (reads_lit [y] (fun _ => rfl) rfl) (by unfold maxLen; simp only [List.length_cons, List.length_nil]; omega) (by simp only [List.length_cons, List.length_nil]; omega) rfl (fun A110 c110 => ?_)
          refine oj_nil ?_
          refine ej_pl (lt_y (y_sub rfl rfl (by omega)) rfl (lt_y (y_move rfl) rfl (lt_y (y_move rfl) rfl (lt_y (y_ldW (reads_sl) Try.isAgg26 Try.sizeOf26 rfl (hq) (fun _ => rfl)) rfl (lt_y (y_ixR (reads_sl) Try.underlying24 Try.sizeOf26 rfl rfl (⟨by omega, by omega⟩)) rfl (lt_y (y_move rfl) rfl (lt_y (y_load1 Try.isAgg24 rfl rfl) rfl (lt_y (y_fa fa26_2 rfl) rfl (lt_y (y_move rfl) rfl (lt_w (by kernel_rfl) (lt_y (y_fa fa26_2 rfl) rfl (lt_nil)))))))))))) ?_
          refine pl_y 14 rfl (y_fa fa26_2 rfl) rfl rfl rfl rfl (by kernel_rfl) ?_
          refine pl_w1 15 (by kernel_rfl) rfl rfl (pl_fire rfl rfl rfl (by kernel_rfl) ?_)
          refine oj_store rfl rfl rfl rfl Try.sizeOf24 rfl ?_
          refine oj_nil ?_
          refine ej_pl (lt_w (by kernel_rfl) (lt_w (by kernel_rfl) (lt_w (by kernel_rfl) (lt_w (by kernel_rfl) (lt_w (by kernel_rfl) (lt_w (by kernel_rfl) (lt_w (by kernel_rfl) (lt_w (by kernel_rfl) (lt_w (by kernel_rfl) (lt_w (by kernel_rfl) (lt_w (by kernel_rfl) (lt_w (by kernel_rfl) (lt_nil))))))))))))) ?_
          refine pl_end (by kernel_rfl) ?_
          refine ej_blk (ej_th ?_)
          refine cj_regionG (gj_step (y_move rfl) rfl rfl rfl (gj_step (y_add rfl rfl (by omega)) rfl rfl rfl (gj_step (y_assign rfl) rfl rfl rfl (gj_nil ?_))))
          refine ej_addS (itF (fun i => fp i ∨ (n1 ≤ i ∧ i < n2)) (ys ++ [y])) (fun w1 hp => ?_) ?_
          · have h1 := hp.shared (itF fp ys) (by simp)
            have h2 := hp.shared (itF (fun i => n1 ≤ i ∧ i < n2) [y]) (by simp)
            refine ⟨fun z hz => ?_, fun i hi => ?_⟩
            · rcases List.mem_append.1 hz with hz | hz
              · exact (h1.1 z hz).fp (fun _ h => .inl h)
              · exact (h2.1 z hz).fp (fun _ h => .inr h)
            · rcases hi with hi | hi
              · exact ⟨h1.2.1 i hi, fun g hg => h1.2.2 g hg i hi⟩
              · exact ⟨h2.2.1 i hi, fun g hg => h2.2.2 g hg i hi⟩
          exact ej_nx (j + 1, A110, c110, ys ++ [y], fun i => fp i ∨ (n1 ≤ i ∧ i < n2)) (by simp only; omega) ⟨by first | omega | (simp only; omega), by simp only [List.map_append, List.map_cons, List.map_nil]; rw [List.take_add_one, hq]; simp only [List.map_append]; exact lessL_snoc _ _ _ _ _ hys hy, by simp only [List.length_append, List.length_cons, List.length_nil]; omega, fun i hi => by rcases hi with hi | hi; exact hfn i hi; omega⟩ ⟨rfl, rfl, rfl, rfl, rfl, rfl, rfl, trivial⟩
        · have h96b := h96
          try simp only [sxb] at h96
          refine cj_skip (ej_blk (ej_th ?_))
          refine cj_regionG (gj_step (y_move rfl) rfl rfl rfl (gj_step (y_add rfl rfl (by omega)) rfl rfl rfl (gj_step (y_assign rfl) rfl rfl rfl (gj_nil ?_))))
          exact ej_nx (j + 1, A1, c1, ys, fp) (by simp only; omega) ⟨by first | omega | (simp only; omega), by rw [List.take_add_one, hq]; simp only [List.map_append]; exact lessL_more _ _ _ _ hys, by simp only; omega, hfn⟩ ⟨rfl, rfl, rfl, rfl, rfl, rfl, rfl, trivial⟩
      · have h86b := h86
        try simp only [sxb] at h86
        skip
        refine cj_exit (ej_then_exit (ej_then_exit (ej_blk_hit (ej_th (cj_seq (cj_region ?_))))))
        refine oj_step (y_loadN Try.isAgg26 Try.sizeOf26 rfl) rfl rfl rfl ?_
        refine oj_store rfl rfl rfl rfl Try.sizeOf26 rfl ?_
        refine oj_nil ?_
        refine ej_th (cj_ret ?_)
        have hsvl := hls.1
        refine ej_retC1 rfl Try.results37 rfl (y_loadN Try.isAgg26 Try.sizeOf26 rfl) (fun w' hp => ⟨.mk x.cls A18 c18 sv A1 c1 ys, rfl, hp.below, ?_, ?_⟩)
        · rw [pl_eq, LessP, pl_cls, pl_says, pl_parts]
          refine ⟨rfl, by show LessS (traitsOf _ x.cls) _ _; rw [htr]; exact hls, ?_⟩
          show LessL (gramM l) (ys.map ItemV.pl) (x.parts.map ItemV.pl)
          have hto : ∀ (n : Nat), n ≤ x.parts.length → LessL (gramM l) (ys.map ItemV.pl) ((x.parts.take (j + n)).map ItemV.pl) := by
            intro n
            induction n with
            | zero => intro _; exact hys
            | succ n ihn =>
              intro hn
              have h9 := ihn (by omega)
              rw [show j + (n + 1) = (j + n) + 1 by omega, List.take_add_one, List.map_append]
              cases hq : x.parts[j + n]? with
              | none => simpa using h9
              | some q => exact lessL_more _ _ _ _ h9
          have h8 := hto x.parts.length (Nat.le_refl _)
          rwa [List.take_of_length_le (by omega)] at h8
        · have h1 := hp.shared (itF fp ys) (by simp)
          have hsm2 : smS sv := fun s hs => by
            obtain ⟨k, hk⟩ := List.mem_iff_getElem?.1 hs
            have hkl := (List.getElem?_eq_some_iff.1 hk).1
            rcases hls.2 k (by omega) with h9 | h9
            · rw [gd_of default hk] at h9
              rw [h9]
              exact hx.sm _ (by rw [List.getD_eq_getElem?_getD, List.getElem?_eq_getElem (show k < x.says.length by omega)]; exact List.getElem_mem _)
            · rw [gd_of default hk] at h9
              rw [h9.1]; decide
          refine .mk (hp.res (A := A18) (fun _ => rfl) (by unfold maxLen; omega)) (hp.res (A := A1) (fun _ => rfl) (by unfold maxLen; omega)) hx.nm hsm2 (fun p hp2 => ?_)
          exact (h1.1 p hp2).fp (fun i hi => ⟨hfn i hi, h1.2.1 i hi⟩)

theorem k_less (l : List ClassV) (A : Option Addr) (c : Nat) {w0 : World} {x : ItemV} (bits : List Int) (Ab : Option Addr) (cb : Nat) (hx : GoodI w0 x) : ∀ (w : World) (deep : Int), Grow w0 w → gramOk l = true → Rd w 4 encCl A l → (∀ c ∈ l, GoodC w c) → Rd w 1 enInt Ab bits → bits.length * 8 ≤ 140737488351232 → OkT (gramM l) x.pl → 0 ≤ deep ∧ deep ≤ 3 → Calls Try.prog 37 #[.slice A l.length c, evI x, .slice Ab bits.length cb, .int .i64 deep] w (fun e w' => ∃ y : ItemV, e = .returned (evI y) ∧ Grow w w' ∧ LessP (gramM l) y.pl x.pl ∧ GoodF (fun i => w.heap.size ≤ i ∧ i < w'.heap.size) w' y) := by
  induction hx with
  | @mk x hs hp hn hm hr ih =>
    intro w deep hg hgo hl hgc hb hb8 ho hd
    refine k_less1 l A c x bits Ab cb deep w hl hgc hb hb8 hgo ((GoodI.mk hs hp hn hm hr).mono hg) ho hd (fun p hpm w1 dp hg1 hd1 => ?_)
    have hpo : p.pl ∈ x.pl.parts := by rw [pl_parts]; exact List.mem_map.2 ⟨p, hpm, rfl⟩
    exact ih p hpm w1 dp (grow_trans hg hg1) hgo (hl.mono hg1) (fun q hq => (hgc q hq).mono hg1) (hb.mono hg1) hb8 (ho.pt _ hpo) hd1

end Go.Proofs.Ytlfbghkcfmcnlaa
namespace Go.Proofs.Ytlfbghkcfmcnlaa
open Go.Sx Go.RowKit

abbrev sel {α : Type} (x y z : α) (i : Nat) : α := if i = 0 then x else if i = 1 then y else z
abbrev cI (x y z : ItemV) : List Value := [.string x.cls, .slice x.As x.says.length x.cs, .slice x.Ap x.parts.length x.cp, .string y.cls, .slice y.As y.says.length y.cs, .slice y.Ap y.parts.length y.cp, .string z.cls, .slice z.As z.says.length z.cs, .slice z.Ap z.parts.length z.cp]
theorem lt3 {i : Nat} (h : i < 3) : i = 0 ∨ i = 1 ∨ i = 2 := by omega
theorem tkI (x y z : ItemV) {i : Nat} (h : i < 3) : Tk 3 (0 + (i : Int).toNat * 3) (cI x y z) (encIt (sel x y z i)) := by
  rcases lt3 h with rfl | rfl | rfl
  · show Tk 3 0 _ (encIt x); infer_instance
  · show Tk 3 3 _ (encIt y); infer_instance
  · show Tk 3 6 _ (encIt z); infer_instance
abbrev c9 (f : Nat → Nat → Bool) : List Value := [.bool (f 0 0), .bool (f 0 1), .bool (f 0 2), .bool (f 1 0), .bool (f 1 1), .bool (f 1 2), .bool (f 2 0), .bool (f 2 1), .bool (f 2 2)]
abbrev r3 (f : Nat → Nat → Bool) (i : Nat) : List Value := [.bool (f i 0), .bool (f i 1), .bool (f i 2)]
theorem tk9 (f : Nat → Nat → Bool) {i : Nat} (h : i < 3) : Tk 3 (0 + (i : Int).toNat * 3) (c9 f) (r3 f i) := by
  rcases lt3 h with rfl | rfl | rfl
  · show Tk 3 0 _ (r3 f 0); infer_instance
  · show Tk 3 3 _ (r3 f 1); infer_instance
  · show Tk 3 6 _ (r3 f 2); infer_instance
def upd (f : Nat → Nat → Bool) (i k : Nat) (v : Bool) : Nat → Nat → Bool := fun a b => if a = i ∧ b = k then v else f a b
theorem upd_o {f : Nat → Nat → Bool} {i k a b : Nat} {v : Bool} (h : a ≠ i) : upd f i k v a b = f a b := by unfold upd; rw [if_neg (fun e => h e.1)]
theorem upd_r {f : Nat → Nat → Bool} {i k b : Nat} {v : Bool} (h : b ≠ k) : upd f i k v i b = f i b := by unfold upd; rw [if_neg (fun e => h e.2)]
theorem upd_s {f : Nat → Nat → Bool} {i k : Nat} {v : Bool} : upd f i k v i k = v := by unfold upd; rw [if_pos ⟨rfl, rfl⟩]
theorem set3 (f : Nat → Nat → Bool) (i : Nat) {k : Nat} (v : Bool) (h : k < 3) : SetC (0 + (k : Int).toNat * 1) [.bool v] (r3 f i) (r3 (upd f i k v) i) := by
  rcases lt3 h with rfl | rfl | rfl
  · rw [show r3 (upd f i 0 v) i = [.bool v, .bool (f i 1), .bool (f i 2)] by simp [upd]]
    show SetC 0 _ _ _; infer_instance
  · rw [show r3 (upd f i 1 v) i = [.bool (f i 0), .bool v, .bool (f i 2)] by simp [upd]]
    show SetC 1 _ _ _; infer_instance
  · rw [show r3 (upd f i 2 v) i = [.bool (f i 0), .bool (f i 1), .bool v] by simp [upd]]
    show SetC 2 _ _ _; infer_instance
theorem set9 (f : Nat → Nat → Bool) {i : Nat} (k : Nat) (v : Bool) (h : i < 3) : SetC (0 + (i : Int).toNat * 3) (r3 (upd f i k v) i) (c9 f) (c9 (upd f i k v)) := by
  have o : ∀ a b, a ≠ i → upd f i k v a b = f a b := fun a b h => by unfold upd; rw [if_neg (fun e => h e.1)]
  rcases lt3 h with rfl | rfl | rfl
  · rw [show c9 (upd f 0 k v) = [.bool (upd f 0 k v 0 0), .bool (upd f 0 k v 0 1), .bool (upd f 0 k v 0 2), .bool (f 1 0), .bool (f 1 1), .bool (f 1 2), .bool (f 2 0), .bool (f 2 1), .bool (f 2 2)] by unfold c9; rw [o 1 0 (by omega), o 1 1 (by omega), o 1 2 (by omega), o 2 0 (by omega), o 2 1 (by omega), o 2 2 (by omega)]]
    show SetC 0 _ _ _; infer_instance
  · rw [show c9 (upd f 1 k v) = [.bool (f 0 0), .bool (f 0 1), .bool (f 0 2), .bool (upd f 1 k v 1 0), .bool (upd f 1 k v 1 1), .bool (upd f 1 k v 1 2), .bool (f 2 0), .bool (f 2 1), .bool (f 2 2)] by unfold c9; rw [o 0 0 (by omega), o 0 1 (by omega), o 0 2 (by omega), o 2 0 (by omega), o 2 1 (by omega), o 2 2 (by omega)]]
    show SetC 3 _ _ _; infer_instance
  · rw [show c9 (upd f 2 k v) = [.bool (f 0 0), .bool (f 0 1), .bool (f 0 2), .bool (f 1 0), .bool (f 1 1), .bool (f 1 2), .bool (upd f 2 k v 2 0), .bool (upd f 2 k v 2 1), .bool (upd f 2 k v 2 2)] by unfold c9; rw [o 0 0 (by omega), o 0 1 (by omega), o 0 2 (by omega), o 1 0 (by omega), o 1 1 (by omega), o 1 2 (by omega)]]
    show SetC 6 _ _ _; infer_instance
theorem c9_get (f : Nat → Nat → Bool) {i k : Nat} (hi : i < 3) (hk : k < 3) : (c9 f)[0 + (i : Int).toNat * 3 + (k : Int).toNat * 1]? = some (.bool (f i k)) := by
  rcases lt3 hi with rfl | rfl | rfl <;> rcases lt3 hk with rfl | rfl | rfl <;> rfl
/-! ### The law -/
theorem valTL_perm {l : List ClassV} {cp : List ByteArray} {deep : Int} {a b : List IT} (h : a.Perm b) : valTL l cp a deep = valTL l cp b deep := by
  induction h with
  | nil => rfl
  | cons x _ ih => rw [valTL, valTL, ih]
  | swap x y r => rw [valTL, valTL, valTL, valTL]; cases hasW cp x.cls <;> cases hasW cp y.cls <;> cases valT l x (deep + 1) <;> cases valT l y (deep + 1) <;> simp
  | trans _ _ h1 h2 => rw [h1, h2]
mutual
theorem val_sort (l : List ClassV) (g : List (ByteArray × ClassV)) : ∀ (x : IT) (deep : Int), valT l (sortT g x) deep = valT l x deep
  | .mk cls says parts, deep => by
    rw [sortT_eq, valT, valT]
    have hp := isort_perm0 (ltT g) (parts.map (sortT g)) []
    rw [List.nil_append] at hp
    have hl : (isort (ltT g) [] (parts.map (sortT g))).length = parts.length := by rw [hp.length_eq, List.length_map]
    show (match clsOf l cls with | none => false | some c => if 3 < deep ∨ says.length ≠ c.traits.length ∨ c.most < ((isort (ltT g) [] (parts.map (sortT g))).length : Int) then false else saysOk c.traits says && valTL l c.parts (isort (ltT g) [] (parts.map (sortT g))) deep) = _
    rw [hl]
    cases clsOf l cls with
    | none => rfl
    | some c =>
      simp only
      rw [valTL_perm hp, val_sortL l g c.parts parts deep]
theorem val_sortL (l : List ClassV) (g : List (ByteArray × ClassV)) (cp : List ByteArray) : ∀ (r : List IT) (deep : Int), valTL l cp (r.map (sortT g)) deep = valTL l cp r deep
  | [], _ => rfl
  | p :: r, deep => by rw [List.map_cons, valTL, valTL, val_sort l g p (deep + 1), val_sortL l g cp r deep, sort_cls]
end
theorem sort_ask {l : List ClassV} {x y : ItemV} (h : (askIE l [x] != 0) = false) (hy : y.pl = SrtT l x) : askIE l [y] = 0 ∧ PrnT l y = txtT (gramM l) (sortT (gramM l) x.pl) := by
  have ok := askIE_ok h
  have hg : gramOk l = true := by simp only [askIOk, Bool.and_eq_true] at ok; exact ok.1
  have ix : itemOk l x = true := by simp only [askIOk, Bool.and_eq_true, List.all_eq_true] at ok; exact ok.2 x (by simp)
  have hye : y.pl = sortT (gramM l) x.pl := by rw [hy]; unfold SrtT; rw [ok]; rfl
  have iy : itemOk l y = true := by
    rw [itemOk_ref hg, valI_T, hye, val_sort, sort_cnt]
    rw [itemOk_ref hg, valI_T] at ix; exact ix
  have oy : askIOk l [y] = true := by simp [askIOk, hg, iy]
  refine ⟨by simp [askIE, hg, iy], ?_⟩
  unfold PrnT; rw [oy, hye]; rfl
theorem ask_vals {l : List ClassV} {x : ItemV} (h : (askIE l [x] != 0) = true) : ((askIE l [x] == 10) || (askIE l [x] == 11)) = true := by
  unfold askIE at h ⊢
  cases h1 : gramOk l <;> cases h2 : itemOk l x <;> simp [h1, h2] at h ⊢
theorem ask_at {l : List ClassV} {x y z : ItemV} (h : ∀ k, k < 3 → askIE l [sel x y z k] = 0) {i : Nat} (hi : i < 3) : OkN (gramM l) (sel x y z i).pl :=
  ask_N (askIE_ok (by rw [h i hi]; rfl)) _ (by simp)
/-- what the law finds -/
theorem order_law {l : List ClassV} {x y z : ItemV} (h : ∀ k, k < 3 → askIE l [sel x y z k] = 0) {f : Nat → Nat → Bool} (hf : ∀ i, i < 3 → ∀ k, k < 3 → f i k = covI (sel x y z i) (sel x y z k)) :
    (∀ i, i < 3 → f i i = true) ∧ (∀ i k n, i < 3 → k < 3 → n < 3 → f i k = true → f k n = true → f i n = true) ∧
    (∀ i k, i < 3 → k < 3 → (txtT (gramM l) (sortT (gramM l) (sel x y z i).pl) == txtT (gramM l) (sortT (gramM l) (sel x y z k).pl)) = (f i k && f k i)) := by
  refine ⟨fun i hi => ?_, fun i k n hi hk hn h1 h2 => ?_, fun i k hi hk => ?_⟩
  · rw [hf i hi i hi]; exact (covI_iff _ _).2 (cov_refl _)
  · rw [hf i hi k hk] at h1
    rw [hf k hk n hn] at h2
    rw [hf i hi n hn]
    exact (covI_iff _ _).2 (cov_trans _ _ _ (ask_at h hi) (ask_at h hk) (ask_at h hn) ((covI_iff _ _).1 h1) ((covI_iff _ _).1 h2))
  · rw [hf i hi k hk, hf k hk i hi]; exact cov_both (ask_at h hi) (ask_at h hk)
end Go.Proofs.Ytlfbghkcfmcnlaa
namespace Go.Proofs.Ytlfbghkcfmcnlaa
open Go.Sx Go.RowKit
set_option maxRecDepth 20000

end Go.Proofs.Ytlfbghkcfmcnlaa
namespace Go.Proofs.Ytlfbghkcfmcnlaa
open Go.Sx Go.RowKit
set_option maxRecDepth 20000
set_option maxHeartbeats 4000000 in
theorem k_PledgeOrder (l : List ClassV) (A : Option Addr) (c : Nat) (x y z : ItemV) (w : World) (hl : Rd w 4 encCl A l) (hgc : ∀ c ∈ l, GoodC w c) (hx : GoodI w x) (hy : GoodI w y) (hz : GoodI w z) : Calls Try.prog 7 #[.slice A l.length c, .agg #[.string x.cls, .slice x.As x.says.length x.cs, .slice x.Ap x.parts.length x.cp, .string y.cls, .slice y.As y.says.length y.cs, .slice y.Ap y.parts.length y.cp, .string z.cls, .slice z.As z.says.length z.cs, .slice z.Ap z.parts.length z.cp]] w (fun e w' => e = .returned (.bool true) ∧ Grow w w') := by
  have hgs : ∀ i, i < 3 → GoodI w (sel x y z i) := fun i hi => by rcases lt3 hi with rfl | rfl | rfl; exact hx; exact hy; exact hz
  refine enter_pure (args := [.slice A l.length c, .agg #[.string x.cls, .slice x.As x.says.length x.cs, .slice x.Ap x.parts.length x.cp, .string y.cls, .slice y.As y.says.length y.cs, .slice y.Ap y.parts.length y.cp, .string z.cls, .slice z.As z.says.length z.cs, .slice z.Ap z.parts.length z.cp]]) [sl (fun b => b < w.heap.size) 4 encCl A l] Try.func7 rfl (by rw [Try.ntmps7]; simp) (fun g hg => by simp at hg; subst hg; exact ⟨hl, fun _ h => h⟩) ?_
  refine cj_seq (cj_region ?_)
  refine oj_box rfl rfl rfl (fun b3 => ?_)
  refine oj_step (y_assign rfl) rfl rfl rfl ?_
  refine oj_nil ?_
  refine ej_th (cj_seq (cj_region ?_))
  refine oj_alloc Try.zeroValue66 rfl rfl (fun b5 => ?_)
  refine oj_nil ?_
  refine ej_th (cj_seq ?_)
  refine cj_regionG (gj_step (y_assign rfl) rfl rfl rfl (gj_nil ?_))
  refine ej_th (cj_seq (cj_seq ?_))
  refine cj_regionG (gj_step (y_assign rfl) rfl rfl rfl (gj_nil ?_))
  refine ej_th (cj_block ?_)
  refine cj_ownNil 9 1 enStr ?_
  refine cj_lpi (X := Nat × (Nat → Nat → Bool) × Option Addr × Nat × List ByteArray) [(0, _), (3, _), (5, _)] (fun ⟨i, f, A6, c6, ts⟩ => i ≤ 3 ∧ ts.length = i ∧ (∀ j, j < i → ts.getD j default = txtT (gramM l) (sortT (gramM l) (sel x y z j).pl)) ∧ (∀ j, j < i → ∀ k, k < 3 → f j k = covI (sel x y z j) (sel x y z k)) ∧ (0 < i → ∀ k, k < 3 → askIE l [sel x y z k] = 0)) (fun ⟨i, f, A6, c6, ts⟩ => [(6, .slice A6 ts.length c6), (7, .int .i64 i)]) (fun ⟨i, f, A6, c6, ts⟩ => [ow 9 1 enStr A6 c6 ts, ownB b5 (cellsB 66 (c9 f)), ownB b3 (cellsB 64 (cI x y z))]) (fun ⟨i, f, A6, c6, ts⟩ => [sl (fun b => b < w.heap.size) 4 encCl A l]) (fun ⟨i, f, A6, c6, ts⟩ => 3 - i) (0, fun _ _ => false, none, 0, []) (⟨Nat.zero_le _, rfl, fun j hj => absurd hj (Nat.not_lt_zero j), fun j hj => absurd hj (Nat.not_lt_zero j), fun h => absurd h (Nat.lt_irrefl 0)⟩) ⟨rfl, rfl, rfl, rfl, rfl, trivial⟩ ?_
  rintro ⟨i, f, A6, c6, ts⟩ ⟨hi, htl, htx, hff, has⟩
  dsimp only [List.cons_append, List.nil_append]
  refine cj_seq (cj_seq ?_)
  refine cj_regionG (gj_step (y_move rfl) rfl rfl rfl (gj_step (y_lss rfl rfl) rfl rfl rfl (gj_nil ?_)))
  refine ej_th ?_
  refine cj_cond rfl (fun h20 => ?_) (fun h20 => ?_)
  · have h20b := h20
    try simp only [sxb] at h20
    refine cj_skip (ej_th (cj_seq (cj_block (cj_seq (cj_region ?_)))))
    refine oj_step (y_move rfl) rfl rfl rfl ?_
    refine oj_step (y_move rfl) rfl rfl rfl ?_
    refine oj_step (y_ixArr Try.underlying64 Try.sizeOf26 rfl rfl (by omega)) rfl rfl rfl ?_
    refine oj_step (y_loadN (hv := tkI x y z (i := i) (by omega)) Try.isAgg26 Try.sizeOf26 rfl) rfl rfl rfl ?_
    refine oj_call (X := { z2 : ItemV × Nat × Nat // z2.1.pl = SrtT l (sel x y z i) }) (fun z2 => .tuple #[evI z2.1.1, .int .i64 (askIE l [sel x y z i])]) (fun _ => []) (fun z2 => [itF (fun i => z2.1.2.1 ≤ i ∧ i < z2.1.2.2) [z2.1.1]]) Try.call15 rfl (fun w1 hp => (k_Sort l A c (sel x y z i) w1 hp.rd (fun q hq => (hgc q hq).mono hp.below) ((hgs i (by omega)).mono hp.below)).mono fun e w2 ⟨s, he, hg, hs, hG⟩ => ⟨⟨(s, w1.heap.size, w2.heap.size), hs⟩, he, hg, by simp, by simp, fun f hf => by
      rw [List.mem_singleton.1 hf]
      exact ⟨fun z hz => by rw [List.mem_singleton.1 hz]; exact hG, fun i hi => ⟨hi.1, hi.2, by simp⟩⟩⟩) rfl ?_
    rintro ⟨⟨s, n1, n2⟩, hs⟩
    dsimp only [List.cons_append, List.nil_append] at hs ⊢
    refine oj_step (y_move rfl) rfl rfl rfl ?_
    refine oj_step (y_extract rfl rfl) rfl rfl rfl ?_
    refine oj_step (y_extract rfl rfl) rfl rfl rfl ?_
    refine oj_alloc Try.zeroValue26 rfl rfl (fun b8 => ?_)
    refine oj_store rfl rfl rfl rfl Try.sizeOf26 rfl ?_
    refine oj_step (y_assign rfl) rfl rfl rfl ?_
    refine oj_nil ?_
    refine ej_th (cj_seq ?_)
    refine cj_regionG ?_
    refine gj_step (y_move rfl) rfl rfl rfl (gj_step (y_loadN Try.isAgg26 Try.sizeOf26 rfl) rfl rfl rfl (?_))
    refine gj_step (y_call Try.call35 rfl (fun w hp => by
      have h1 : GoodI w s := hp_it hp (fun i => n1 ≤ i ∧ i < n2) s
      exact k_Print l A c s w hp.rd (fun q hq => (hgc q hq).mono hp.below) h1)) rfl rfl rfl ?_
    refine gj_step (y_move rfl) rfl rfl rfl (gj_step (y_extract rfl rfl) rfl rfl rfl (gj_step (y_extract rfl rfl) rfl rfl rfl (gj_step (y_assign rfl) rfl rfl rfl (gj_step (y_assign rfl) rfl rfl rfl (?_)))))
    refine gj_nil ?_
    refine ej_th (cj_seq (cj_seq ?_))
    refine cj_regionG (gj_step (y_move rfl) rfl rfl rfl (gj_step (y_neq rfl rfl) rfl rfl rfl (gj_nil ?_)))
    refine ej_th ?_
    refine cj_cond rfl (fun h38 => ?_) (fun h38 => ?_)
    · have h38b := h38
      try simp only [sxb] at h38
      refine cj_seq ?_
      refine cj_regionG ?_
      refine gj_step (y_move rfl) rfl rfl rfl (gj_step (y_eql rfl rfl) rfl rfl rfl (gj_step (y_move rfl) rfl rfl rfl (?_)))
      refine gj_g 2 41 43 rfl rfl rfl rfl (fun hg41 => gj_yes rfl rfl rfl (y_move rfl) rfl rfl (gj_yes rfl rfl rfl (y_eql rfl rfl) rfl rfl (gj_nil rfl))) ?_
      refine gj_step (y_or rfl rfl rfl) rfl rfl rfl (gj_step (y_move rfl) rfl rfl rfl (?_))
      refine gj_g 1 45 46 rfl rfl rfl rfl (fun hg45 => gj_yes rfl rfl rfl (y_call Try.call18 rfl (fun w hp => k_works w)) rfl rfl (gj_nil rfl)) ?_
      refine gj_step (y_and rfl rfl rfl) rfl rfl rfl (gj_step (y_assign rfl) rfl rfl rfl (?_))
      refine gj_nil ?_
      refine ej_th (cj_ret (ej_then_ret (ej_blk_ret (ej_then_ret (ej_then_ret (ej_blk_ret (ej_then_ret ?_)))))))
      refine ej_ret1 rfl Try.results7 rfl (fun w' hp => ⟨?_, hp.below⟩)
      rw [ask_vals h38b]; rfl
    · have h38b := h38
      try simp only [sxb] at h38
      obtain ⟨e1, e2⟩ := sort_ask h38b hs
      refine cj_skip (ej_th (cj_seq (cj_seq ?_)))
      refine cj_regionG (gj_step (y_move rfl) rfl rfl rfl (gj_step (y_neq rfl rfl) rfl rfl rfl (gj_nil ?_)))
      refine ej_th ?_
      refine cj_cond rfl (fun h49 => ?_) (fun h49 => ?_)
      · exfalso
        rw [e1] at h49
        simp at h49
      · have h49b := h49
        try simp only [sxb] at h49
        refine cj_skip (ej_th (cj_seq (cj_region ?_)))
        refine oj_step (y_move rfl) rfl rfl rfl ?_
        refine oj_step (y_move rfl) rfl rfl rfl ?_
        refine oj_buildSlice (cs := [.string (PrnT l s)]) [.string ⟨#[]⟩] Try.underlying23 Try.sizeOf9 Try.zeroValue9 rfl rfl (by kernel_rfl) (by kernel_rfl) rfl (fun b52 => ?_)
        refine oj_append  el23 (fun _ => rfl) enStr_one rfl rfl rfl (reads_lit [(PrnT l s)] (fun _ => rfl) rfl) (by unfold maxLen; simp only [List.length_cons, List.length_nil]; omega) (by simp only [List.length_cons, List.length_nil]; omega) rfl (fun A53 c53 => ?_)
        refine oj_step (y_assign rfl) rfl rfl rfl ?_
        refine oj_nil ?_
        refine ej_th (cj_seq ?_)
        refine cj_regionG (gj_step (y_assign rfl) rfl rfl rfl (gj_nil ?_))
        refine ej_th (cj_block ?_)
        have htl2 : (ts ++ [PrnT l s]).length = i + 1 := by simp [htl]
        have htx2 : ∀ j, j < i + 1 → (ts ++ [PrnT l s]).getD j default = txtT (gramM l) (sortT (gramM l) (sel x y z j).pl) := fun j hj => by
          rw [List.getD_eq_getElem?_getD]
          rcases Nat.lt_or_ge j i with h | h
          · rw [List.getElem?_append_left (by omega), ← List.getD_eq_getElem?_getD]; exact htx j h
          · rw [List.getElem?_append_right (by omega), show j - ts.length = 0 by omega]
            show PrnT l s = _
            rw [e2, show j = i by omega]
        obtain ⟨us, hus⟩ : ∃ us, us = ts ++ [PrnT l s] := ⟨_, rfl⟩
        rw [← hus] at htl2 htx2
        rw [← hus]
        refine cj_lpi (X := Nat × (Nat → Nat → Bool)) [(6, _), (7, _), (0, _), (3, _), (5, _)] (fun ⟨k, f⟩ => k ≤ 3 ∧ (∀ j, j < i → ∀ m, m < 3 → f j m = covI (sel x y z j) (sel x y z m)) ∧ (∀ m, m < k → f i m = covI (sel x y z i) (sel x y z m)) ∧ (∀ m, m < k → askIE l [sel x y z m] = 0)) (fun ⟨k, f⟩ => [(12, .int .i64 k)]) (fun ⟨k, f⟩ => [ow 9 1 enStr A53 c53 us, ownB b5 (cellsB 66 (c9 f)), ownB b3 (cellsB 64 (cI x y z))]) (fun ⟨k, f⟩ => [sl (fun b => b < w.heap.size) 4 encCl A l]) (fun ⟨k, f⟩ => 3 - k) (0, f) (⟨Nat.zero_le _, hff, fun m hm => absurd hm (Nat.not_lt_zero m), fun m hm => absurd hm (Nat.not_lt_zero m)⟩) ⟨rfl, rfl, rfl, rfl, rfl, rfl, trivial⟩ ?_
        rintro ⟨k, f⟩ ⟨hk, hff, hfi, hak⟩
        dsimp only [List.cons_append, List.nil_append]
        refine cj_seq (cj_seq ?_)
        refine cj_regionG (gj_step (y_move rfl) rfl rfl rfl (gj_step (y_lss rfl rfl) rfl rfl rfl (gj_nil ?_)))
        refine ej_th ?_
        refine cj_cond rfl (fun h55 => ?_) (fun h55 => ?_)
        · have h55b := h55
          try simp only [sxb] at h55
          refine cj_skip (ej_th (cj_seq (cj_block (cj_seq (cj_seq ?_)))))
          refine cj_regionG ?_
          refine gj_step (y_move rfl) rfl rfl rfl (gj_step (y_move rfl) rfl rfl rfl (gj_step (y_ixArr Try.underlying64 Try.sizeOf26 rfl rfl (by omega)) rfl rfl rfl (gj_step (y_loadN (hv := tkI x y z (i := k) (by omega)) Try.isAgg26 Try.sizeOf26 rfl) rfl rfl rfl (?_))))
          refine gj_step (y_call Try.call36 rfl (fun w hp => k_Check l A c (sel x y z k) w hp.rd (fun q hq => (hgc q hq).mono hp.below) ((hgs k (by omega)).mono hp.below))) rfl rfl rfl ?_
          refine gj_step (y_neq rfl rfl) rfl rfl rfl (?_)
          refine gj_nil ?_
          refine ej_th ?_
          refine cj_cond rfl (fun h63 => ?_) (fun h63 => ?_)
          · have h63b := h63
            try simp only [sxb] at h63
            refine cj_seq ?_
            refine cj_regionG ?_
            refine gj_step (y_call Try.call18 rfl (fun w hp => k_works w)) rfl rfl rfl ?_
            refine gj_step (y_assign rfl) rfl rfl rfl (?_)
            refine gj_nil ?_
            refine ej_th (cj_ret (ej_then_ret (ej_blk_ret (ej_then_ret (ej_then_ret (ej_blk_ret (ej_blk_ret (ej_then_ret (ej_then_ret (ej_blk_ret (ej_then_ret ?_)))))))))))
            refine ej_ret1 rfl Try.results7 rfl (fun w' hp => ⟨?_, hp.below⟩)
            rfl
          · have h63b := h63
            try simp only [sxb] at h63
            have hk0 : askIE l [sel x y z k] = 0 := by simpa using h63b
            obtain ⟨e3, hok2⟩ := ask2_3 h38b h63b
            have hcv : CovT l (sel x y z i) (sel x y z k) = covI (sel x y z i) (sel x y z k) := by unfold CovT; rw [hok2]; rfl
            refine cj_skip (ej_th (cj_seq ?_))
            refine cj_draw (by kernel_rfl) (by kernel_rfl) ?_
            refine gj_step (y_move rfl) rfl rfl rfl (gj_step (y_move rfl) rfl rfl rfl (gj_step (y_ixArr Try.underlying64 Try.sizeOf26 rfl rfl (by omega)) rfl rfl rfl (gj_step (y_loadN (hv := tkI x y z (i := i) (by omega)) Try.isAgg26 Try.sizeOf26 rfl) rfl rfl rfl (gj_step (y_move rfl) rfl rfl rfl (gj_step (y_ixArr Try.underlying64 Try.sizeOf26 rfl rfl (by omega)) rfl rfl rfl (gj_step (y_loadN (hv := tkI x y z (i := k) (by omega)) Try.isAgg26 Try.sizeOf26 rfl) rfl rfl rfl (?_)))))))
            refine gj_step (y_call Try.call13 rfl (fun w hp => k_Covers l A c (sel x y z i) (sel x y z k) w hp.rd (fun q hq => (hgc q hq).mono hp.below) ((hgs i (by omega)).mono hp.below) ((hgs k (by omega)).mono hp.below))) rfl rfl rfl ?_
            refine gj_step (y_move rfl) rfl rfl rfl (gj_step (y_extract rfl rfl) rfl rfl rfl (gj_step (y_extract rfl rfl) rfl rfl rfl (gj_step (y_assign rfl) rfl rfl rfl (gj_step (y_assign rfl) rfl rfl rfl (?_)))))
            refine gj_nil ?_
            refine ej_th (cj_seq (cj_seq ?_))
            refine cj_regionG (gj_step (y_move rfl) rfl rfl rfl (gj_step (y_neq rfl rfl) rfl rfl rfl (gj_nil ?_)))
            refine ej_th ?_
            refine cj_cond rfl (fun h77 => ?_) (fun h77 => ?_)
            · exfalso
              rw [e3] at h77
              simp at h77
            · have h77b := h77
              try simp only [sxb] at h77
              refine cj_skip (ej_th (cj_seq (cj_region ?_)))
              refine oj_step (y_move rfl) rfl rfl rfl ?_
              refine oj_step (y_ixArr Try.underlying66 Try.sizeOf65 rfl rfl (by omega)) rfl rfl rfl ?_
              refine oj_step (y_loadN (hv := tk9 f (i := i) (by omega)) Try.isAgg65 Try.sizeOf65 rfl) rfl rfl rfl ?_
              refine oj_alloc Try.zeroValue65 rfl rfl (fun b15 => ?_)
              refine oj_store rfl rfl rfl rfl Try.sizeOf65 rfl ?_
              refine oj_nil ?_
              refine ej_th (cj_seq (cj_region ?_))
              refine oj_step (y_move rfl) rfl rfl rfl ?_
              refine oj_step (y_move rfl) rfl rfl rfl ?_
              refine oj_step (y_ixArr Try.underlying65 Try.sizeOf4 rfl rfl (by omega)) rfl rfl rfl ?_
              refine oj_store (vs := [.bool (CovT l (sel x y z i) (sel x y z k))]) (n := 1) (hset := set3 f i (CovT l (sel x y z i) (sel x y z k)) (by omega)) rfl rfl rfl rfl Try.sizeOf4 rfl ?_
              refine oj_nil ?_
              refine ej_th (cj_region ?_)
              refine oj_step (y_move rfl) rfl rfl rfl ?_
              refine oj_step (y_loadN Try.isAgg65 Try.sizeOf65 rfl) rfl rfl rfl ?_
              refine oj_step (y_ixArr Try.underlying66 Try.sizeOf65 rfl rfl (by omega)) rfl rfl rfl ?_
              refine oj_store (vs := r3 (upd f i k (CovT l (sel x y z i) (sel x y z k))) i) (n := 3) (hset := set9 f k (CovT l (sel x y z i) (sel x y z k)) (by omega)) rfl rfl rfl rfl Try.sizeOf65 rfl ?_
              refine oj_nil ?_
              refine ej_blk (ej_th ?_)
              refine cj_regionG (gj_step (y_move rfl) rfl rfl rfl (gj_step (y_add rfl rfl (by omega)) rfl rfl rfl (gj_step (y_assign rfl) rfl rfl rfl (gj_nil ?_))))
              obtain ⟨f2, hf2⟩ : ∃ f2, f2 = upd f i k (CovT l (sel x y z i) (sel x y z k)) := ⟨_, rfl⟩
              rw [← hf2]
              have u1 : ∀ j, j < i → ∀ m, m < 3 → f2 j m = covI (sel x y z j) (sel x y z m) := fun j hj m hm => by rw [hf2, upd_o (by omega)]; exact hff j hj m hm
              have u2 : ∀ m, m < k + 1 → f2 i m = covI (sel x y z i) (sel x y z m) := fun m hm => by
                rcases Nat.lt_or_ge m k with h | h
                · rw [hf2, upd_r (by omega)]; exact hfi m h
                · rw [show m = k by omega, hf2, upd_s, hcv]
              have u3 : ∀ m, m < k + 1 → askIE l [sel x y z m] = 0 := fun m hm => by
                rcases Nat.lt_or_ge m k with h | h
                · exact hak m h
                · rw [show m = k by omega]; exact hk0
              exact ej_nx (k + 1, f2) (by simp only; omega) ⟨by first | omega | (simp only; omega), u1, u2, u3⟩ ⟨rfl, rfl, rfl, rfl, rfl, rfl, trivial⟩
        · have h55b := h55
          try simp only [sxb] at h55
          refine cj_exit (ej_then_exit (ej_then_exit (ej_blk_hit (ej_blk (ej_th ?_)))))
          refine cj_regionG (gj_step (y_move rfl) rfl rfl rfl (gj_step (y_add rfl rfl (by omega)) rfl rfl rfl (gj_step (y_assign rfl) rfl rfl rfl (gj_nil ?_))))
          exact ej_nx (i + 1, f, A53, c53, us) (by simp only; omega) ⟨by first | omega | (simp only; omega), htl2, htx2, fun j hj m hm => by
            rcases Nat.lt_or_ge j i with h | h
            · exact hff j h m hm
            · rw [show j = i by omega]; exact hfi m (by omega), fun _ m hm => hak m (by omega)⟩ ⟨rfl, rfl, rfl, rfl, rfl, trivial⟩
  · have h20b := h20
    try simp only [sxb] at h20
    have hi3 : i = 3 := by omega
    subst hi3
    obtain ⟨l1, l2, l3⟩ := order_law (f := f) (fun k hk => has (by omega) k hk) (fun i hi k hk => hff i hi k hk)
    refine cj_exit (ej_then_exit (ej_then_exit (ej_blk_hit (ej_th (cj_seq (cj_seq ?_))))))
    refine cj_regionG (gj_step (y_assign rfl) rfl rfl rfl (gj_nil ?_))
    refine ej_th (cj_block ?_)
    refine cj_lpic (X := Nat) [(6, _), (5, _)] (fun i => i ≤ 3) (fun i => [(16, .int .i64 i)]) (fun i => 3 - i) 0 (Nat.zero_le _) ⟨rfl, rfl, rfl, trivial⟩ ?_
    rintro i hi
    dsimp only [List.cons_append, List.nil_append]
    refine cj_seq (cj_seq ?_)
    refine cj_regionG (gj_step (y_move rfl) rfl rfl rfl (gj_step (y_lss rfl rfl) rfl rfl rfl (gj_nil ?_)))
    refine ej_th ?_
    refine cj_cond rfl (fun h88 => ?_) (fun h88 => ?_)
    · have h88b := h88
      try simp only [sxb] at h88
      refine cj_skip (ej_th (cj_seq (cj_block (cj_seq ?_))))
      refine cj_regionG (gj_step (y_assign rfl) rfl rfl rfl (gj_nil ?_))
      refine ej_th (cj_block ?_)
      refine cj_lpic (X := Nat) [(16, _), (6, _), (5, _)] (fun k => k ≤ 3) (fun k => [(17, .int .i64 k)]) (fun k => 3 - k) 0 (Nat.zero_le _) ⟨rfl, rfl, rfl, rfl, trivial⟩ ?_
      rintro k hk
      dsimp only [List.cons_append, List.nil_append]
      refine cj_seq (cj_seq ?_)
      refine cj_regionG (gj_step (y_move rfl) rfl rfl rfl (gj_step (y_lss rfl rfl) rfl rfl rfl (gj_nil ?_)))
      refine ej_th ?_
      refine cj_cond rfl (fun h92 => ?_) (fun h92 => ?_)
      · have h92b := h92
        try simp only [sxb] at h92
        obtain ⟨ti, hti⟩ : ∃ ti, ts[i]? = some ti := ⟨_, List.getElem?_eq_getElem (by omega)⟩
        obtain ⟨tk, htk⟩ : ∃ tk, ts[k]? = some tk := ⟨_, List.getElem?_eq_getElem (by omega)⟩
        have hl1 := l1 i (by omega)
        have hl3 := l3 i k (by omega) (by omega)
        rw [← htx i (by omega), ← htx k (by omega), gd_of default hti, gd_of default htk] at hl3
        refine cj_skip (ej_th (cj_seq (cj_block (cj_seq (cj_seq ?_)))))
        refine cj_draw (by kernel_rfl) (by kernel_rfl) (gj_step (y_move rfl) rfl rfl rfl (gj_step (y_move rfl) rfl rfl rfl (gj_step (y_eql rfl rfl) rfl rfl rfl (gj_step (y_move rfl) rfl rfl rfl (gj_g 6 98 104 rfl rfl rfl rfl (fun hg98 => gj_yes rfl rfl rfl (y_move rfl) rfl rfl (gj_yes rfl rfl rfl (y_move rfl) rfl rfl (gj_yes rfl rfl rfl (y_ixArr Try.underlying66 Try.sizeOf65 rfl rfl (by omega)) rfl rfl (gj_yes rfl rfl rfl (y_ixArr Try.underlying65 Try.sizeOf4 rfl rfl (by omega)) rfl rfl (gj_yes rfl rfl rfl (y_load1 Try.isAgg4 rfl (c9_get f (i := i) (k := i) (by omega) (by omega))) rfl rfl (gj_yes rfl rfl rfl (y_not rfl) rfl rfl (gj_nil rfl))))))) (gj_step (y_and rfl rfl rfl) rfl rfl rfl (gj_step (y_move rfl) rfl rfl rfl (gj_g 22 106 128 rfl rfl rfl rfl (fun hg106 => gj_yes rfl rfl rfl (y_move rfl) rfl rfl (gj_yes rfl rfl rfl (y_move rfl) rfl rfl (gj_yes rfl rfl rfl (y_ixR (reads_ow (xs := ts) enStr_len) Try.underlying23 Try.sizeOf9 rfl rfl ⟨by omega, by omega⟩) rfl rfl (gj_yes rfl rfl rfl (y_ld0 (reads_ow (xs := ts) enStr_len) Try.isAgg9 rfl hti rfl) rfl rfl (gj_yes rfl rfl rfl (y_move rfl) rfl rfl (gj_yes rfl rfl rfl (y_move rfl) rfl rfl (gj_yes rfl rfl rfl (y_ixR (reads_ow (xs := ts) enStr_len) Try.underlying23 Try.sizeOf9 rfl rfl ⟨by omega, by omega⟩) rfl rfl (gj_yes rfl rfl rfl (y_ld0 (reads_ow (xs := ts) enStr_len) Try.isAgg9 rfl htk rfl) rfl rfl (gj_yes rfl rfl rfl (y_eqlS rfl rfl) rfl rfl (gj_yes rfl rfl rfl (y_move rfl) rfl rfl (gj_yes rfl rfl rfl (y_move rfl) rfl rfl (gj_yes rfl rfl rfl (y_ixArr Try.underlying66 Try.sizeOf65 rfl rfl (by omega)) rfl rfl (gj_yes rfl rfl rfl (y_ixArr Try.underlying65 Try.sizeOf4 rfl rfl (by omega)) rfl rfl (gj_yes rfl rfl rfl (y_load1 Try.isAgg4 rfl (c9_get f (i := i) (k := k) (by omega) (by omega))) rfl rfl (gj_yes rfl rfl rfl (y_move rfl) rfl rfl (gj_g 5 121 126 rfl rfl rfl rfl (fun hg121 => gj_yes rfl rfl rfl (y_move rfl) rfl rfl (gj_yes rfl rfl rfl (y_move rfl) rfl rfl (gj_yes rfl rfl rfl (y_ixArr Try.underlying66 Try.sizeOf65 rfl rfl (by omega)) rfl rfl (gj_yes rfl rfl rfl (y_ixArr Try.underlying65 Try.sizeOf4 rfl rfl (by omega)) rfl rfl (gj_yes rfl rfl rfl (y_load1 Try.isAgg4 rfl (c9_get f (i := k) (k := i) (by omega) (by omega))) rfl rfl (gj_nil rfl)))))) (gj_yes rfl rfl rfl (y_and rfl rfl rfl) rfl rfl (gj_yes rfl rfl rfl (y_neqB Try.underlying4 rfl rfl) rfl rfl (gj_nil rfl))))))))))))))))))) (gj_step (y_or rfl rfl rfl) rfl rfl rfl (gj_nil ?_))))))))))
        refine ej_th ?_
        refine cj_cond rfl (fun h129 => ?_) (fun h129 => ?_)
        · exfalso
          rw [hl1, hl3] at h129
          simp at h129
        · have h129b := h129
          try simp only [sxb] at h129
          refine cj_skip (ej_th (cj_seq ?_))
          refine cj_regionG (gj_step (y_assign rfl) rfl rfl rfl (gj_nil ?_))
          refine ej_th (cj_block ?_)
          refine cj_lpic (X := Nat) [(17, _), (16, _), (6, _), (5, _)] (fun n => n ≤ 3) (fun n => [(18, .int .i64 n)]) (fun n => 3 - n) 0 (Nat.zero_le _) ⟨rfl, rfl, rfl, rfl, rfl, trivial⟩ ?_
          rintro n hn
          dsimp only [List.cons_append, List.nil_append]
          refine cj_seq (cj_seq ?_)
          refine cj_regionG (gj_step (y_move rfl) rfl rfl rfl (gj_step (y_lss rfl rfl) rfl rfl rfl (gj_nil ?_)))
          refine ej_th ?_
          refine cj_cond rfl (fun h131 => ?_) (fun h131 => ?_)
          · have h131b := h131
            try simp only [sxb] at h131
            have hl2 := l2 i k n (by omega) (by omega) (by omega)
            refine cj_skip (ej_th (cj_seq (cj_block (cj_seq ?_))))
            refine cj_regionG (gj_step (y_move rfl) rfl rfl rfl (gj_step (y_move rfl) rfl rfl rfl (gj_step (y_ixArr Try.underlying66 Try.sizeOf65 rfl rfl (by omega)) rfl rfl rfl (gj_step (y_ixArr Try.underlying65 Try.sizeOf4 rfl rfl (by omega)) rfl rfl rfl (gj_step (y_load1 Try.isAgg4 rfl (c9_get f (i := i) (k := k) (by omega) (by omega))) rfl rfl rfl (gj_step (y_move rfl) rfl rfl rfl (gj_g 5 139 144 rfl rfl rfl rfl (fun hg139 => gj_yes rfl rfl rfl (y_move rfl) rfl rfl (gj_yes rfl rfl rfl (y_move rfl) rfl rfl (gj_yes rfl rfl rfl (y_ixArr Try.underlying66 Try.sizeOf65 rfl rfl (by omega)) rfl rfl (gj_yes rfl rfl rfl (y_ixArr Try.underlying65 Try.sizeOf4 rfl rfl (by omega)) rfl rfl (gj_yes rfl rfl rfl (y_load1 Try.isAgg4 rfl (c9_get f (i := k) (k := n) (by omega) (by omega))) rfl rfl (gj_nil rfl)))))) (gj_step (y_and rfl rfl rfl) rfl rfl rfl (gj_step (y_move rfl) rfl rfl rfl (gj_g 6 146 152 rfl rfl rfl rfl (fun hg146 => gj_yes rfl rfl rfl (y_move rfl) rfl rfl (gj_yes rfl rfl rfl (y_move rfl) rfl rfl (gj_yes rfl rfl rfl (y_ixArr Try.underlying66 Try.sizeOf65 rfl rfl (by omega)) rfl rfl (gj_yes rfl rfl rfl (y_ixArr Try.underlying65 Try.sizeOf4 rfl rfl (by omega)) rfl rfl (gj_yes rfl rfl rfl (y_load1 Try.isAgg4 rfl (c9_get f (i := i) (k := n) (by omega) (by omega))) rfl rfl (gj_yes rfl rfl rfl (y_not rfl) rfl rfl (gj_nil rfl))))))) (gj_step (y_and rfl rfl rfl) rfl rfl rfl (gj_nil ?_))))))))))))
            refine ej_th ?_
            refine cj_cond rfl (fun h153 => ?_) (fun h153 => ?_)
            · exfalso
              simp only [Bool.and_eq_true, Bool.not_eq_true'] at h153
              rw [hl2 h153.1.1 h153.1.2] at h153
              cases h153.2
            · have h153b := h153
              try simp only [sxb] at h153
              refine cj_skip (ej_blk (ej_th ?_))
              refine cj_regionG (gj_step (y_move rfl) rfl rfl rfl (gj_step (y_add rfl rfl (by omega)) rfl rfl rfl (gj_step (y_assign rfl) rfl rfl rfl (gj_nil ?_))))
              exact ej_nx (n + 1) (by omega) (by omega) ⟨rfl, rfl, rfl, rfl, rfl, trivial⟩
          · have h131b := h131
            try simp only [sxb] at h131
            refine cj_exit (ej_then_exit (ej_then_exit (ej_blk_hit (ej_blk (ej_th ?_)))))
            refine cj_regionG (gj_step (y_move rfl) rfl rfl rfl (gj_step (y_add rfl rfl (by omega)) rfl rfl rfl (gj_step (y_assign rfl) rfl rfl rfl (gj_nil ?_))))
            exact ej_nx (k + 1) (by omega) (by omega) ⟨rfl, rfl, rfl, rfl, trivial⟩
      · have h92b := h92
        try simp only [sxb] at h92
        refine cj_exit (ej_then_exit (ej_then_exit (ej_blk_hit (ej_blk (ej_th ?_)))))
        refine cj_regionG (gj_step (y_move rfl) rfl rfl rfl (gj_step (y_add rfl rfl (by omega)) rfl rfl rfl (gj_step (y_assign rfl) rfl rfl rfl (gj_nil ?_))))
        exact ej_nx (i + 1) (by omega) (by omega) ⟨rfl, rfl, rfl, trivial⟩
    · have h88b := h88
      try simp only [sxb] at h88
      refine cj_exit (ej_then_exit (ej_then_exit (ej_blk_hit (ej_th (cj_seq ?_)))))
      refine cj_regionG ?_
      refine gj_step (y_call Try.call18 rfl (fun w hp => k_works w)) rfl rfl rfl ?_
      refine gj_step (y_assign rfl) rfl rfl rfl (?_)
      refine gj_nil ?_
      refine ej_th (cj_ret ?_)
      refine ej_ret1 rfl Try.results7 rfl (fun w' hp => ⟨?_, hp.below⟩)
      rfl

end Go.Proofs.Ytlfbghkcfmcnlaa
