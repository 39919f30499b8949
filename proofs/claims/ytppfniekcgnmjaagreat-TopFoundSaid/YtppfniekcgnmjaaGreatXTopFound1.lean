/- Texts of ours, joined: 26 of them. Conditions: none. -/
import Derived.Test.YtppfniekcgnmjaaGreatXTopFound0
import Derived.Test.YtppfniekcgnmjaaGreatProg
import Derived.Laws.StructEq
import Derived.Shelf.SlSortCmp.NoneTotal
import Derived.WalkKit
import Derived.Shelf.SlGeneric
import Derived.Shelf.SlLaysF
namespace Am

theorem sumN_left (n : Nat) (f : Nat → Int) : sumN (n + 1) f = f 0 + sumN n (fun i => f (i + 1)) := by
  induction n with
  | zero => simp [sumN]
  | succ n ih => rw [sumN, ih, sumN]; omega
theorem IsMax.congr {n m : Nat} {w w' : Nat → Nat → Int} {M : Int} (h : IsMax n m w M) (e : ∀ i j, i < n → j < m → w i j = w' i j) : IsMax n m w' M := by
  have key : ∀ σ, Val n m σ → wt n w' σ = wt n w σ := fun σ hs => sumN_congr fun i hi => by
    cases hσ : σ i with
    | none => rfl
    | some j => exact (e i j hi (hs.lot i j hi hσ)).symm
  obtain ⟨σ, h1, h2⟩ := h.at_
  exact ⟨⟨σ, h1, (key σ h1).trans h2⟩, fun σ hs => by rw [key σ hs]; exact h.le σ hs⟩
/-- what a list says: who gets which lot -/
def sig (to : List Int) : Nat → Option Nat := fun i => match to[i]? with
  | some k => if 0 ≤ k then some k.toNat else none
  | none => none
theorem sig_some {to : List Int} {i j : Nat} : sig to i = some j ↔ to[i]? = some (j : Int) := by
  unfold sig
  cases h : to[i]? with
  | none => simp
  | some k =>
    by_cases h0 : 0 ≤ k
    · simp only [if_pos h0, Option.some.injEq]; omega
    · simp only [if_neg h0, Option.some.injEq]
      constructor
      · intro h; cases h
      · intro h; omega
/-- a list of lots, none twice -/
structure OkL (m : Nat) (so : List Int) : Prop where
  rng : ∀ k ∈ so, -1 ≤ k ∧ k < m
  nd : (so.filter (fun k => decide (0 ≤ k))).Nodup
theorem OkL.nil (m : Nat) : OkL m [] := ⟨fun _ h => (by cases h), by simp⟩
theorem OkL.snoc {m : Nat} {so : List Int} {k : Int} : OkL m (so ++ [k]) ↔ OkL m so ∧ (-1 ≤ k ∧ k < m) ∧ (0 ≤ k → k ∉ so) := by
  constructor
  · intro ⟨h1, h2⟩
    rw [List.filter_append] at h2
    have h3 := List.nodup_append.1 h2
    refine ⟨⟨fun q hq => h1 q (List.mem_append_left _ hq), h3.1⟩, h1 k (by simp), fun h0 hk => ?_⟩
    exact h3.2.2 k (List.mem_filter.2 ⟨hk, by simpa using h0⟩) k (by simp [h0]) rfl
  · intro ⟨⟨h1, h2⟩, h3, h4⟩
    refine ⟨fun q hq => ?_, ?_⟩
    · rcases List.mem_append.1 hq with e | e
      · exact h1 q e
      · simp at e; rw [e]; exact h3
    · rw [List.filter_append]
      by_cases h0 : 0 ≤ k
      · rw [show [k].filter (fun k => decide (0 ≤ k)) = [k] by simp [h0]]
        refine List.nodup_append.2 ⟨h2, by simp, fun a ha b hb => ?_⟩
        simp at hb; rw [hb]
        exact fun e => h4 h0 (e ▸ (List.mem_filter.1 ha).1)
      · rw [show [k].filter (fun k => decide (0 ≤ k)) = [] by simp [h0], List.append_nil]; exact h2
theorem OkL.pre {m : Nat} {a b : List Int} (h : OkL m (a ++ b)) : OkL m a :=
  ⟨fun k hk => h.rng k (List.mem_append_left _ hk), by have := h.nd; rw [List.filter_append] at this; exact (List.nodup_append.1 this).1⟩
theorem ok_inj {m : Nat} : ∀ {to : List Int}, OkL m to → ∀ {i i' : Nat} {k : Int}, to[i]? = some k → to[i']? = some k → 0 ≤ k → i = i'
  | [], _, i, i', k, h, _, _ => by simp at h
  | a :: to, hk, i, i', k, h, h', h0 => by
    have hs : OkL m to ∧ (0 ≤ a → a ∉ to) := by
      refine ⟨⟨fun q hq => hk.rng q (List.mem_cons_of_mem _ hq), ?_⟩, fun h0 hm => ?_⟩
      · have := hk.nd; rw [List.filter_cons] at this
        split at this
        · exact (List.nodup_cons.1 this).2
        · exact this
      · have := hk.nd; rw [List.filter_cons, if_pos (by simpa using h0)] at this
        exact (List.nodup_cons.1 this).1 (List.mem_filter.2 ⟨hm, by simpa using h0⟩)
    cases i with
    | zero =>
      cases i' with
      | zero => rfl
      | succ i' =>
        simp at h h'
        rw [h] at hs
        exact absurd (List.mem_of_getElem? h') (hs.2 h0)
    | succ i =>
      cases i' with
      | zero =>
        simp at h h'
        rw [h'] at hs
        exact absurd (List.mem_of_getElem? h) (hs.2 h0)
      | succ i' =>
        simp at h h'
        rw [ok_inj hs.1 h h' h0]
theorem ok_of {m : Nat} {to : List Int} (h1 : ∀ k ∈ to, -1 ≤ k ∧ k < m) (h2 : ∀ (i i' : Nat) (k : Int), to[i]? = some k → to[i']? = some k → 0 ≤ k → i = i') : OkL m to := by
  refine ⟨h1, ?_⟩
  clear h1
  induction to with
  | nil => simp
  | cons a to ih =>
    have hi := ih (fun i i' k h h' h0 => by have := h2 (i + 1) (i' + 1) k (by simpa using h) (by simpa using h') h0; omega)
    rw [List.filter_cons]
    by_cases h0 : 0 ≤ a
    · rw [if_pos (by simpa using h0)]
      refine List.nodup_cons.2 ⟨fun hm => ?_, hi⟩
      obtain ⟨i, hi'⟩ := List.mem_iff_getElem?.1 (List.mem_filter.1 hm).1
      have := h2 0 (i + 1) a (by simp) (by simpa using hi') h0
      omega
    · rw [if_neg (by simpa using h0)]; exact hi
theorem sig_val {m : Nat} {to : List Int} (h : OkL m to) : Val to.length m (sig to) := by
  refine ⟨fun i j _ e => ?_, fun i i' j _ _ e e' => ?_⟩
  · have := h.rng _ (List.mem_of_getElem? (sig_some.1 e)); omega
  · exact ok_inj h (sig_some.1 e) (sig_some.1 e') (by omega)
/-- the list of an award -/
def lst (n : Nat) (σ : Nat → Option Nat) : List Int := (List.range n).map (fun i => match σ i with | none => -1 | some j => (j : Int))
theorem lst_len (n : Nat) (σ : Nat → Option Nat) : (lst n σ).length = n := by simp [lst]
theorem lst_get {n : Nat} {σ : Nat → Option Nat} {i : Nat} (hi : i < n) : (lst n σ)[i]? = some (match σ i with | none => -1 | some j => (j : Int)) := by
  unfold lst; rw [List.getElem?_map, List.getElem?_range hi]; rfl
theorem lst_sig {n : Nat} {σ : Nat → Option Nat} {i : Nat} (hi : i < n) : sig (lst n σ) i = σ i := by
  unfold sig; rw [lst_get hi]
  cases h : σ i with
  | none => rfl
  | some j => simp only; rw [if_pos (by omega)]; simp
theorem lst_ok {n m : Nat} {σ : Nat → Option Nat} (h : Val n m σ) : OkL m (lst n σ) := by
  refine ok_of (fun k hk => ?_) (fun i i' k hi hi' h0 => ?_)
  · obtain ⟨i, hi, e⟩ := List.mem_map.1 hk
    have hin := List.mem_range.1 hi
    cases hs : σ i with
    | none => rw [hs] at e; simp only at e; omega
    | some j => rw [hs] at e; simp only at e; have := h.lot i j hin hs; omega
  · have hl := (List.getElem?_eq_some_iff.1 hi).1
    have hl' := (List.getElem?_eq_some_iff.1 hi').1
    rw [lst_len] at hl hl'
    rw [lst_get hl] at hi; rw [lst_get hl'] at hi'
    cases hs : σ i with
    | none => rw [hs] at hi; simp at hi; omega
    | some j =>
      cases hs' : σ i' with
      | none => rw [hs'] at hi'; simp at hi'; omega
      | some j' =>
        rw [hs] at hi; rw [hs'] at hi'
        simp at hi hi'
        have : j = j' := by omega
        exact h.inj i i' j hl hl' hs (this ▸ hs')
theorem wt_lst {n : Nat} (w : Nat → Nat → Int) (σ : Nat → Option Nat) : wt n w (sig (lst n σ)) = wt n w σ := sumN_congr fun i hi => by rw [lst_sig hi]

/-! ### worth -/
def rv (res : List Int) (j : Nat) : Int := res.getD j 0
def vv (rows : List (List Int)) (i j : Nat) : Int := (rows.getD i []).getD j 0
def wv (res : List Int) (rows : List (List Int)) (i j : Nat) : Int := vv rows i j - rv res j
def sumR (res : List Int) : Int := sumN res.length (rv res)
/-- the program's: lots that nobody gets, then what is given -/
def wFree (to : List Int) : List Int → Int → Int → Int
  | [], _, n => n
  | r :: l, k, n => wFree to l (k + 1) (if to.contains k then n else n + r)
def wGot (rows : List (List Int)) : List Int → Nat → Int → Int
  | [], _, n => n
  | k :: t, i, n => wGot rows t (i + 1) (if 0 ≤ k then n + vv rows i k.toNat else n)
theorem wFree_drop (to res : List Int) (k : Nat) (r n : Int) (h : res[k]? = some r) : wFree to (res.drop k) k n = wFree to (res.drop (k + 1)) ((k + 1 : Nat) : Int) (if to.contains (k : Int) then n else n + r) := by
  obtain ⟨h1, h2⟩ := List.getElem?_eq_some_iff.1 h
  rw [List.drop_eq_getElem_cons h1, h2, wFree]; rfl
theorem wGot_drop (rows : List (List Int)) (to : List Int) (i : Nat) (k n : Int) (h : to[i]? = some k) : wGot rows (to.drop i) i n = wGot rows (to.drop (i + 1)) (i + 1) (if 0 ≤ k then n + vv rows i k.toNat else n) := by
  obtain ⟨h1, h2⟩ := List.getElem?_eq_some_iff.1 h
  rw [List.drop_eq_getElem_cons h1, h2, wGot]
def worthP (res : List Int) (rows : List (List Int)) (to : List Int) : Int := wGot rows to 0 (wFree to res 0 0)
theorem wFree_sum (to : List Int) : ∀ (l : List Int) (k : Nat) (n : Int), wFree to l k n = n + sumN l.length (fun j => if to.contains ((k + j : Nat) : Int) then 0 else l.getD j 0)
  | [], k, n => by simp [wFree, sumN]
  | r :: l, k, n => by
    rw [wFree, show ((k : Int) + 1) = ((k + 1 : Nat) : Int) from rfl, wFree_sum to l (k + 1), List.length_cons, sumN_left]
    rw [sumN_congr (n := l.length) (f := fun i => if to.contains ((k + (i + 1) : Nat) : Int) then (0 : Int) else (r :: l).getD (i + 1) 0) (g := fun j => if to.contains ((k + 1 + j : Nat) : Int) then 0 else l.getD j 0) (fun i _ => by rw [show k + (i + 1) = k + 1 + i by omega]; rfl)]
    simp only [Nat.add_zero, List.getD_cons_zero]
    split <;> omega
theorem wGot_sum (rows : List (List Int)) : ∀ (t : List Int) (i : Nat) (n : Int), wGot rows t i n = n + sumN t.length (fun k => gt (fun a b => vv rows (i + a) b) k (sig t k))
  | [], i, n => by simp [wGot, sumN]
  | k :: t, i, n => by
    rw [wGot, wGot_sum rows t (i + 1), List.length_cons, sumN_left]
    rw [sumN_congr (n := t.length) (f := fun j => gt (fun a b => vv rows (i + a) b) (j + 1) (sig (k :: t) (j + 1))) (g := fun j => gt (fun a b => vv rows (i + 1 + a) b) j (sig t j)) (fun j _ => by
      rw [show sig (k :: t) (j + 1) = sig t j from rfl]
      cases sig t j with
      | none => rfl
      | some b => show vv rows (i + (j + 1)) b = vv rows (i + 1 + j) b; rw [show i + (j + 1) = i + 1 + j by omega])]
    have : gt (fun a b => vv rows (i + a) b) 0 (sig (k :: t) 0) = if 0 ≤ k then vv rows i k.toNat else 0 := by
      unfold sig
      by_cases h : 0 ≤ k
      · simp [h, gt]
      · simp [h, gt]
    rw [this]
    split <;> omega
theorem sold_iff {to : List Int} {j : Nat} : (to.contains (j : Int) = true) ↔ ∃ i, i < to.length ∧ sig to i = some j := by
  rw [List.contains_iff_mem]
  constructor
  · intro h
    obtain ⟨i, hi⟩ := List.mem_iff_getElem?.1 h
    exact ⟨i, (List.getElem?_eq_some_iff.1 hi).1, sig_some.2 hi⟩
  · rintro ⟨i, _, e⟩
    exact List.mem_of_getElem? (sig_some.1 e)
theorem worthP_eq {res : List Int} {rows : List (List Int)} {to : List Int} (h : OkL res.length to) : worthP res rows to = sumR res + wt to.length (wv res rows) (sig to) := by
  have hv := sig_val h
  unfold worthP
  rw [wGot_sum, show wFree to res 0 0 = wFree to res ((0 : Nat) : Int) 0 from rfl, wFree_sum]
  simp only [Nat.zero_add]
  have e := sum_img_eq (fun j => if to.contains (j : Int) then rv res j else 0) hv (fun j _ hno => by
    rw [if_neg]; intro hc
    obtain ⟨i, hi, e⟩ := (sold_iff).1 hc
    exact hno i hi e)
  have e2 : sumR res = sumN res.length (fun j => if to.contains (j : Int) then 0 else res.getD j 0) + sumN res.length (fun j => if to.contains (j : Int) then rv res j else 0) := by
    rw [← sumN_add]
    refine sumN_congr fun j _ => ?_
    split
    · omega
    · show res.getD j 0 = _; omega
  have e3 : sumN to.length (fun k => gt (fun a b => vv rows a b) k (sig to k)) = wt to.length (wv res rows) (sig to) + sumN to.length (fun i => gt (fun _ j => if to.contains (j : Int) then rv res j else 0) i (sig to i)) := by
    unfold wt
    rw [← sumN_add]
    refine sumN_congr fun i hi => ?_
    cases hs : sig to i with
    | none => rfl
    | some j =>
      show vv rows i j = wv res rows i j + (if to.contains (j : Int) then rv res j else 0)
      rw [if_pos ((sold_iff).2 ⟨i, hi, hs⟩)]
      unfold wv; omega
  omega
end Am
namespace Am

def bestS (f : List Int → Int) (s : List Int × Int) (so : List Int) : List Int × Int := if s.2 < f so then (so, f so) else s
/-- the lots that are tried: none, then each -/
def kL (m : Nat) : List Int := (List.range (m + 1)).map (fun i : Nat => (i : Int) - 1)
theorem kL_len (m : Nat) : (kL m).length = m + 1 := by simp [kL]
theorem kL_get {m t : Nat} (h : t ≤ m) : (kL m)[t]? = some ((t : Int) - 1) := by unfold kL; rw [List.getElem?_map, List.getElem?_range (by omega)]; rfl
theorem kL_mem {m : Nat} {k : Int} : k ∈ kL m ↔ -1 ≤ k ∧ k < m := by
  unfold kL
  rw [List.mem_map]
  constructor
  · rintro ⟨i, hi, e⟩; have := List.mem_range.1 hi; omega
  · intro h; exact ⟨(k + 1).toNat, List.mem_range.2 (by omega), by omega⟩
def goB (f : List Int → Int) (m : Nat) : Nat → List Int → List Int × Int → List Int × Int
  | 0, so, s => bestS f s so
  | d + 1, so, s => (kL m).foldl (fun s k => if k < 0 ∨ so.contains k = false then goB f m d (so ++ [k]) s else s) s
def stK (f : List Int → Int) (m d : Nat) (so : List Int) (s : List Int × Int) (k : Int) : List Int × Int := if k < 0 ∨ so.contains k = false then goB f m d (so ++ [k]) s else s
/-- the loop, from the t-th try on -/
def goK (f : List Int → Int) (m d : Nat) (so : List Int) (t : Nat) (s : List Int × Int) : List Int × Int := ((kL m).drop t).foldl (stK f m d so) s
theorem goK_s {f : List Int → Int} {m d : Nat} {so : List Int} {t : Nat} {s : List Int × Int} (h : t ≤ m) : goK f m d so t s = goK f m d so (t + 1) (stK f m d so s ((t : Int) - 1)) := by
  have hl : t < (kL m).length := by rw [kL_len]; omega
  unfold goK
  rw [List.drop_eq_getElem_cons hl, List.foldl_cons, show (kL m)[t] = (t : Int) - 1 from by have := kL_get h; rw [List.getElem?_eq_getElem hl] at this; exact Option.some.inj this]
theorem goK_end {f : List Int → Int} {m d : Nat} {so : List Int} {t : Nat} {s : List Int × Int} (h : m < t) : goK f m d so t s = s := by
  unfold goK; rw [List.drop_of_length_le (by rw [kL_len]; omega)]; rfl
/-- a list that completes another one -/
def Comp (m d : Nat) (so to : List Int) : Prop := OkL m to ∧ ∃ t, to = so ++ t ∧ t.length = d
structure Bst (f : List Int → Int) (C : List Int → Prop) (s s' : List Int × Int) : Prop where
  ge : s.2 ≤ s'.2
  all : ∀ to, C to → f to ≤ s'.2
  at_ : s' = s ∨ ∃ to, C to ∧ s' = (to, f to)
theorem goB_spec (f : List Int → Int) (m : Nat) : ∀ (d : Nat) (so : List Int) (s : List Int × Int), OkL m so → Bst f (Comp m d so) s (goB f m d so s)
  | 0, so, s, hs => by
    have hc : ∀ to, Comp m 0 so to → to = so := by rintro to ⟨_, t, e, hl⟩; rw [e, List.eq_nil_of_length_eq_zero hl, List.append_nil]
    have hso : Comp m 0 so so := ⟨hs, [], by simp, rfl⟩
    rw [goB, bestS]
    by_cases h : s.2 < f so
    · rw [if_pos h]; exact ⟨by simp only; omega, fun to ht => by rw [hc to ht]; exact Int.le_refl _, .inr ⟨so, hso, rfl⟩⟩
    · rw [if_neg h]; exact ⟨Int.le_refl _, fun to ht => by rw [hc to ht]; omega, .inl rfl⟩
  | d + 1, so, s, hs => by
    have key : ∀ (ks : List Int) (s : List Int × Int), (∀ k ∈ ks, -1 ≤ k ∧ k < m) → Bst f (fun to => ∃ k ∈ ks, Comp m d (so ++ [k]) to) s (ks.foldl (stK f m d so) s) := by
      intro ks
      induction ks with
      | nil => intro s _; exact ⟨Int.le_refl _, fun to ⟨k, hk, _⟩ => (by cases hk), .inl rfl⟩
      | cons k ks ih =>
        intro s hk
        rw [List.foldl_cons]
        obtain ⟨a1, a2, a3⟩ := ih (stK f m d so s k) (fun q hq => hk q (List.mem_cons_of_mem _ hq))
        have hkr := hk k (List.mem_cons_self ..)
        have hstep : Bst f (Comp m d (so ++ [k])) s (stK f m d so s k) := by
          unfold stK
          by_cases h : k < 0 ∨ so.contains k = false
          · rw [if_pos h]
            refine goB_spec f m d (so ++ [k]) s (OkL.snoc.2 ⟨hs, hkr, fun h0 hm => ?_⟩)
            rcases h with h | h
            · omega
            · rw [List.contains_iff_mem.2 hm] at h; cases h
          · rw [if_neg h]
            refine ⟨Int.le_refl _, fun to ht => ?_, .inl rfl⟩
            obtain ⟨hok, t, e, _⟩ := ht
            rw [e] at hok
            have := (OkL.snoc.1 hok.pre).2.2 (by omega)
            exact absurd (.inr (by cases hc : so.contains k; rfl; exact absurd (List.contains_iff_mem.1 hc) this)) h
        refine ⟨Int.le_trans hstep.ge a1, fun to ht => ?_, ?_⟩
        · obtain ⟨q, hq, hc⟩ := ht
          rcases List.mem_cons.1 hq with e | e
          · have := hstep.all to (e ▸ hc); omega
          · exact a2 to ⟨q, e, hc⟩
        · rcases a3 with e | ⟨to, ⟨q, hq, hc⟩, e⟩
          · rw [e]
            rcases hstep.at_ with e' | ⟨to, hc, e'⟩
            · exact .inl e'
            · exact .inr ⟨to, ⟨k, List.mem_cons_self .., hc⟩, e'⟩
          · exact .inr ⟨to, ⟨q, List.mem_cons_of_mem _ hq, hc⟩, e⟩
    obtain ⟨a1, a2, a3⟩ := key (kL m) s (fun k hk => kL_mem.1 hk)
    have hiff : ∀ to, Comp m (d + 1) so to ↔ ∃ k ∈ kL m, Comp m d (so ++ [k]) to := by
      intro to
      constructor
      · rintro ⟨hok, t, e, hl⟩
        cases t with
        | nil => simp at hl
        | cons k t =>
          refine ⟨k, kL_mem.2 (hok.rng k (by rw [e]; simp)), hok, t, by rw [e]; simp, by simpa using hl⟩
      · rintro ⟨k, _, hok, t, e, hl⟩
        exact ⟨hok, k :: t, by rw [e]; simp, by simp [hl]⟩
    show Bst f (Comp m (d + 1) so) s ((kL m).foldl (stK f m d so) s)
    exact ⟨a1, fun to ht => a2 to ((hiff to).1 ht), a3.imp id fun ⟨to, h, e⟩ => ⟨to, (hiff to).2 h, e⟩⟩
/-- the program's best list, and its worth -/
def bestF (res : List Int) (rows : List (List Int)) : List Int × Int := goB (worthP res rows) res.length rows.length [] ([], -1)
def nnL (l : List Int) : Prop := ∀ x ∈ l, 0 ≤ x
theorem getD_nn {l : List Int} (h : nnL l) (k : Nat) : 0 ≤ l.getD k 0 := by
  rw [List.getD_eq_getElem?_getD]
  cases hx : l[k]? with
  | none => simp
  | some x => exact h x (List.mem_of_getElem? hx)
theorem worth_nn {res : List Int} {rows : List (List Int)} (h1 : nnL res) (h2 : ∀ r ∈ rows, nnL r) (to : List Int) : 0 ≤ worthP res rows to := by
  have hvv : ∀ i j, 0 ≤ vv rows i j := by
    intro i j
    unfold vv
    refine getD_nn ?_ j
    rw [List.getD_eq_getElem?_getD]
    cases hr : rows[i]? with
    | none => intro x hx; cases hx
    | some r => exact h2 r (List.mem_of_getElem? hr)
  have g1 : ∀ (l : List Int) (k n : Int), nnL l → 0 ≤ n → 0 ≤ wFree to l k n := by
    intro l
    induction l with
    | nil => intro k n _ h; exact h
    | cons r l ih =>
      intro k n hl hn
      rw [wFree]
      have := hl r (List.mem_cons_self ..)
      exact ih _ _ (fun x hx => hl x (List.mem_cons_of_mem _ hx)) (by split <;> omega)
  have g2 : ∀ (t : List Int) (i : Nat) (n : Int), 0 ≤ n → 0 ≤ wGot rows t i n := by
    intro t
    induction t with
    | nil => intro i n h; exact h
    | cons k t ih =>
      intro i n hn
      rw [wGot]
      have := hvv i k.toNat
      exact ih _ _ (by split <;> omega)
  exact g2 to 0 _ (g1 res 0 0 h1 (Int.le_refl _))
theorem best_spec {res : List Int} {rows : List (List Int)} (h1 : nnL res) (h2 : ∀ r ∈ rows, nnL r) : OkL res.length (bestF res rows).1 ∧ (bestF res rows).1.length = rows.length ∧ (bestF res rows).2 = worthP res rows (bestF res rows).1 ∧ IsMax rows.length res.length (wv res rows) ((bestF res rows).2 - sumR res) ∧ wt rows.length (wv res rows) (sig (bestF res rows).1) = (bestF res rows).2 - sumR res := by
  obtain ⟨a1, a2, a3⟩ := goB_spec (worthP res rows) res.length rows.length [] ([], -1) (OkL.nil _)
  have hc : ∀ to, OkL res.length to → to.length = rows.length → Comp res.length rows.length [] to := fun to h hl => ⟨h, to, by simp, hl⟩
  have h0 : Val rows.length res.length (fun _ => none) := ⟨fun _ _ _ h => (by cases h), fun _ _ _ _ _ h => (by cases h)⟩
  have hz := a2 _ (hc _ (lst_ok h0) (lst_len _ _))
  have hzz := worth_nn h1 h2 (lst rows.length fun _ => none)
  rcases a3 with e | ⟨to, ⟨hok, t, e1, hl⟩, e⟩
  · rw [e] at hz; simp only at hz; omega
  · have e1' : to = t := by simpa using e1
    subst e1'
    have eb : bestF res rows = (to, worthP res rows to) := e
    have hw := worthP_eq (rows := rows) hok
    rw [hl] at hw
    have hv := sig_val hok
    rw [hl] at hv
    rw [eb]
    refine ⟨hok, hl, rfl, ⟨⟨sig to, hv, by simp only; omega⟩, fun σ hs => ?_⟩, by simp only; omega⟩
    have h3 := a2 _ (hc _ (lst_ok hs) (lst_len _ _))
    have h4 := worthP_eq (rows := rows) (lst_ok hs)
    rw [lst_len, wt_lst] at h4
    have eb2 : (goB (worthP res rows) res.length rows.length [] ([], -1)).2 = worthP res rows to := by rw [e]
    rw [eb2] at h3
    simp only; omega
/-! ### the reference: the lots that are free, as bits -/
def freeR (res : List Int) (f : Nat) : Int := sumN res.length (fun j => if f.testBit j then rv res j else 0)
def mostJ (row : List Int) (f : Nat) (g : Nat → Int) : Nat → Nat → Int → Int
  | 0, _, b => b
  | d + 1, j, b => mostJ row f g d (j + 1) (if f.testBit j then max b (row.getD j 0 + g (f - 2 ^ j)) else b)
def mostR (res : List Int) : List (List Int) → Nat → Int
  | [], f => freeR res f
  | row :: rest, f => mostJ row f (mostR res rest) res.length 0 (mostR res rest f)
structure IsFree (n m f : Nat) (w : Nat → Nat → Int) (M : Int) : Prop where
  at_ : ∃ σ, Val n m σ ∧ (∀ i j, i < n → σ i = some j → f.testBit j = true) ∧ wt n w σ = M
  le : ∀ σ, Val n m σ → (∀ i j, i < n → σ i = some j → f.testBit j = true) → wt n w σ ≤ M
theorem wt_left (n : Nat) (w : Nat → Nat → Int) (σ : Nat → Option Nat) : wt (n + 1) w σ = gt w 0 (σ 0) + wt n (fun i => w (i + 1)) (fun i => σ (i + 1)) := by
  unfold wt; rw [sumN_left]; congr 1
theorem bit_sub {f j k : Nat} (h : f.testBit j = true) : (f - 2 ^ j).testBit k = (f.testBit k && !(k == j)) := by
  have hq : 2 ^ (j + 1) * (f / 2 ^ (j + 1)) + f % 2 ^ (j + 1) = f := Nat.div_add_mod ..
  have hlt : f % 2 ^ (j + 1) < 2 ^ (j + 1) := Nat.mod_lt _ (Nat.two_pow_pos _)
  have hb : (f % 2 ^ (j + 1)).testBit j = true := by rw [Nat.testBit_mod_two_pow, h]; simp
  have hge := Nat.ge_two_pow_of_testBit hb
  have hp : 2 ^ (j + 1) = 2 * 2 ^ j := by rw [Nat.pow_succ]; omega
  obtain ⟨r, hr⟩ : ∃ r, f % 2 ^ (j + 1) = 2 ^ j + r := ⟨f % 2 ^ (j + 1) - 2 ^ j, by omega⟩
  have hrl : r < 2 ^ j := by omega
  rw [hr] at hq hlt
  have e1 : f - 2 ^ j = 2 ^ (j + 1) * (f / 2 ^ (j + 1)) + r := by omega
  rw [e1, Nat.testBit_two_pow_mul_add _ (by omega), ← hq, Nat.testBit_two_pow_mul_add _ hlt]
  have e2 : (2 ^ (j + 1) * (f / 2 ^ (j + 1)) + (2 ^ j + r)) / 2 ^ (j + 1) = f / 2 ^ (j + 1) := by rw [hq]
  rw [e2]
  by_cases hk : k < j + 1
  · rw [if_pos hk, if_pos hk]
    by_cases hkj : k = j
    · subst hkj; rw [Nat.testBit_lt_two_pow hrl]; simp
    · rw [Nat.testBit_two_pow_add_gt (by omega)]; simp [hkj]
  · rw [if_neg hk, if_neg hk]
    have : k ≠ j := by omega
    simp [this]
theorem free_sub {res : List Int} {f j : Nat} (h : f.testBit j = true) (hj : j < res.length) : freeR res (f - 2 ^ j) = freeR res f - rv res j := by
  unfold freeR
  rw [sumN_upd (fun k => if (f - 2 ^ j).testBit k then rv res k else 0) (fun k => if f.testBit k then rv res k else 0) hj (fun k _ hne => by
    simp only [bit_sub h]; simp [hne])]
  simp only [bit_sub h, h]; simp
theorem mostJ_spec (row : List Int) (f : Nat) (g : Nat → Int) : ∀ (d j : Nat) (b : Int), b ≤ mostJ row f g d j b ∧ (∀ k, j ≤ k → k < j + d → f.testBit k = true → row.getD k 0 + g (f - 2 ^ k) ≤ mostJ row f g d j b) ∧ (mostJ row f g d j b = b ∨ ∃ k, j ≤ k ∧ k < j + d ∧ f.testBit k = true ∧ mostJ row f g d j b = row.getD k 0 + g (f - 2 ^ k))
  | 0, j, b => ⟨Int.le_refl _, fun k h1 h2 => absurd h2 (by omega), .inl rfl⟩
  | d + 1, j, b => by
    rw [mostJ]
    by_cases hb : f.testBit j = true
    · rw [if_pos hb]
      obtain ⟨h1, h2, h3⟩ := mostJ_spec row f g d (j + 1) (max b (row.getD j 0 + g (f - 2 ^ j)))
      refine ⟨by omega, fun k hk1 hk2 hk => ?_, ?_⟩
      · by_cases e : k = j
        · rw [e]; omega
        · exact h2 k (by omega) (by omega) hk
      · rcases h3 with e | ⟨k, k1, k2, k3, k4⟩
        · by_cases hm : b ≤ row.getD j 0 + g (f - 2 ^ j)
          · exact .inr ⟨j, Nat.le_refl _, by omega, hb, by omega⟩
          · exact .inl (by omega)
        · exact .inr ⟨k, by omega, by omega, k3, k4⟩
    · rw [if_neg hb]
      obtain ⟨h1, h2, h3⟩ := mostJ_spec row f g d (j + 1) b
      refine ⟨h1, fun k hk1 hk2 hk => ?_, h3.imp id fun ⟨k, k1, k2, x⟩ => ⟨k, by omega, by omega, x⟩⟩
      by_cases e : k = j
      · rw [e] at hk; exact absurd hk hb
      · exact h2 k (by omega) (by omega) hk
theorem mostR_spec (res : List Int) : ∀ (rows : List (List Int)) (f : Nat), IsFree rows.length res.length f (wv res rows) (mostR res rows f - freeR res f)
  | [], f => by
    rw [mostR, Int.sub_self]
    exact ⟨⟨fun _ => none, ⟨fun _ _ h => absurd h (Nat.not_lt_zero _), fun _ _ _ h => absurd h (Nat.not_lt_zero _)⟩, fun _ _ h => absurd h (Nat.not_lt_zero _), rfl⟩, fun σ _ _ => Int.le_refl _⟩
  | row :: rest, f => by
    have hw0 : ∀ j, wv res (row :: rest) 0 j = row.getD j 0 - rv res j := fun j => rfl
    have hws : (fun i => wv res (row :: rest) (i + 1)) = wv res rest := rfl
    rw [mostR, List.length_cons]
    obtain ⟨b1, b2, b3⟩ := mostJ_spec row f (mostR res rest) res.length 0 (mostR res rest f)
    have hN := mostR_spec res rest f
    refine ⟨?_, fun σ hs hf => ?_⟩
    · rcases b3 with e | ⟨k, _, k2, k3, k4⟩
      · obtain ⟨σ, s1, s2, s3⟩ := hN.at_
        refine ⟨fun i => match i with | 0 => none | i + 1 => σ i, ⟨fun i j hi h => ?_, fun i i' j hi hi' h h' => ?_⟩, fun i j hi h => ?_, ?_⟩
        · cases i with
          | zero => cases h
          | succ i => exact s1.lot i j (by omega) h
        · cases i with
          | zero => cases h
          | succ i =>
            cases i' with
            | zero => cases h'
            | succ i' => rw [s1.inj i i' j (by omega) (by omega) h h']
        · cases i with
          | zero => cases h
          | succ i => exact s2 i j (by omega) h
        · rw [wt_left, hws]
          show (0 : Int) + wt rest.length (wv res rest) (fun i => σ i) = _
          rw [e]; have : wt rest.length (wv res rest) (fun i => σ i) = wt rest.length (wv res rest) σ := rfl
          omega
      · have hkm : k < res.length := by omega
        obtain ⟨σ, s1, s2, s3⟩ := (mostR_spec res rest (f - 2 ^ k)).at_
        have hne : ∀ i j, i < rest.length → σ i = some j → j ≠ k ∧ f.testBit j = true := fun i j hi h => by
          have := s2 i j hi h
          rw [bit_sub k3] at this
          simp at this; exact ⟨this.2, this.1⟩
        refine ⟨fun i => match i with | 0 => some k | i + 1 => σ i, ⟨fun i j hi h => ?_, fun i i' j hi hi' h h' => ?_⟩, fun i j hi h => ?_, ?_⟩
        · cases i with
          | zero => cases h; exact hkm
          | succ i => exact s1.lot i j (by omega) h
        · cases i with
          | zero =>
            cases i' with
            | zero => rfl
            | succ i' => cases h; exact absurd rfl (hne i' _ (by omega) h').1
          | succ i =>
            cases i' with
            | zero => cases h'; exact absurd rfl (hne i _ (by omega) h).1
            | succ i' => rw [s1.inj i i' j (by omega) (by omega) h h']
        · cases i with
          | zero => cases h; exact k3
          | succ i => exact (hne i j (by omega) h).2
        · rw [wt_left, hws]
          show wv res (row :: rest) 0 k + wt rest.length (wv res rest) (fun i => σ i) = _
          have : wt rest.length (wv res rest) (fun i => σ i) = wt rest.length (wv res rest) σ := rfl
          rw [k4, hw0]
          have := free_sub k3 hkm
          omega
    · rw [wt_left, hws]
      have hv : Val rest.length res.length (fun i => σ (i + 1)) := ⟨fun i j hi h => hs.lot (i + 1) j (by omega) h, fun i i' j hi hi' h h' => by have := hs.inj (i + 1) (i' + 1) j (by omega) (by omega) h h'; omega⟩
      cases h0 : σ 0 with
      | none =>
        have := hN.le _ hv (fun i j hi h => hf (i + 1) j (by omega) h)
        show (0 : Int) + _ ≤ _
        omega
      | some k =>
        have hkm := hs.lot 0 k (by omega) h0
        have hkf := hf 0 k (by omega) h0
        have := (mostR_spec res rest (f - 2 ^ k)).le _ hv (fun i j hi h => by
          rw [bit_sub hkf, hf (i + 1) j (by omega) h]
          have : j ≠ k := fun e => by have := hs.inj (i + 1) 0 j (by omega) (by omega) h (e ▸ h0); omega
          simp [this])
        have h2 := b2 k (Nat.zero_le _) (by omega) hkf
        have := free_sub hkf hkm
        show wv res (row :: rest) 0 k + _ ≤ _
        rw [hw0]; omega
/-! ### a lot once more -/
def withR (res : List Int) (k : Nat) : List Int := res ++ [res.getD k 0]
def withV (rows : List (List Int)) (k : Nat) : List (List Int) := rows.map (fun l => l ++ [l.getD k 0])
theorem with_len (res : List Int) (k : Nat) : (withR res k).length = res.length + 1 := by simp [withR]
theorem withV_len (rows : List (List Int)) (k : Nat) : (withV rows k).length = rows.length := by simp [withV]
/-- the price of a lot -/
def priceC (res : List Int) (rows : List (List Int)) (k : Nat) : Int := (bestF (withR res k) (withV rows k)).2 - (bestF res rows).2
def pricesL (res : List Int) (rows : List (List Int)) : List Int := (List.range res.length).map (priceC res rows)
end Am
namespace Go.Proofs.YtppfniekcgnmjaaGreat.Au
open Go.Sx Go.RowKit Am

theorem not_t {b : Bool} (h : (!b) = true) : b = false := by cases b <;> simp_all
theorem not_f {b : Bool} (h : (!b) = false) : b = true := by cases b <;> simp_all
def seek : List Int → Int → Int → Int
  | [], _, _ => -1
  | x :: l, n, i => if x = n then i else seek l n (i + 1)
theorem seek_drop (l : List Int) (n : Int) (k : Nat) (x : Int) (h : l[k]? = some x) : seek (l.drop k) n k = if x = n then (k : Int) else seek (l.drop (k + 1)) n ((k + 1 : Nat) : Int) := by
  obtain ⟨h1, h2⟩ := List.getElem?_eq_some_iff.1 h
  rw [List.drop_eq_getElem_cons h1, h2, seek]; rfl
def btw (lo n hi : Int) : Bool := decide (lo ≤ n) && decide (n ≤ hi)
theorem all_drop {α : Type} (p : α → Bool) (l : List α) (k : Nat) (x : α) (h : l[k]? = some x) : (l.drop k).all p = (p x && (l.drop (k + 1)).all p) := by
  obtain ⟨h1, h2⟩ := List.getElem?_eq_some_iff.1 h
  rw [List.drop_eq_getElem_cons h1, h2, List.all_cons]
theorem btw_t {lo n hi : Int} : btw lo n hi = true ↔ lo ≤ n ∧ n ≤ hi := by unfold btw; rw [Bool.and_eq_true, decide_eq_true_iff, decide_eq_true_iff]
abbrev encRi (r : RiseV) : List Value := [.int .i64 r.fr, .int .i64 r.by_]
abbrev encBi (b : BidV) : List Value := [.int .i64 b.who, .int .i64 b.way, .int .i64 b.most]
/-! a lot -/
def stepOk (pr : Option Int) (r : RiseV) : Bool := btw 1 r.by_ 100000 && (match pr with | none => true | some q => btw (q + 1) r.fr 100000)
def ladG : Option Int → List RiseV → Bool
  | _, [] => true
  | pr, r :: l => stepOk pr r && ladG (some r.fr) l
def prevAt (lad : List RiseV) : Nat → Option Int
  | 0 => none
  | k + 1 => (lad[k]?).map (·.fr)
theorem ladG_drop (lad : List RiseV) (k : Nat) (r : RiseV) (h : lad[k]? = some r) : ladG (prevAt lad k) (lad.drop k) = (stepOk (prevAt lad k) r && ladG (prevAt lad (k + 1)) (lad.drop (k + 1))) := by
  obtain ⟨h1, h2⟩ := List.getElem?_eq_some_iff.1 h
  rw [List.drop_eq_getElem_cons h1, h2, ladG, prevAt, h]; rfl
def lotB (st rv : Int) (lad : List RiseV) : Bool := btw 1 st 100000 && btw 0 rv 100000 && btw 1 lad.length 8 && ((lad.getD 0 default).fr == 0) && ladG none lad
def lotE (st rv : Int) (lad : List RiseV) : Int := if lotB st rv lad = true then 0 else 60
def lotH (st rv : Int) (lad : List RiseV) : Bool := btw 1 st 100000 && btw 0 rv 100000 && btw 1 lad.length 8 && ((lad.getD 0 default).fr == 0)
theorem lotB_H (st rv : Int) (lad : List RiseV) : lotB st rv lad = (lotH st rv lad && ladG none lad) := rfl
theorem lotH_V (st rv : Int) (lad : List RiseV) : ((((!(decide (1 ≤ st) && decide (st ≤ 100000))) || !(decide (0 ≤ rv) && decide (rv ≤ 100000))) || !(decide ((1 : Int) ≤ lad.length) && decide ((lad.length : Int) ≤ 8))) || ((lad.getD (0 : Int).toNat default).fr != 0)) = !(lotH st rv lad) := by
  have e : ((lad.getD (0 : Int).toNat default).fr != 0) = !((lad.getD 0 default).fr == 0) := rfl
  rw [e, ← Bool.not_and, ← Bool.not_and, ← Bool.not_and]; rfl
theorem lotH_z {st rv : Int} {lad : List RiseV} (h : lotH st rv lad = true) : (1 ≤ lad.length ∧ lad.length ≤ 8) ∧ (lad.getD 0 default).fr = 0 := by
  unfold lotH at h
  simp only [Bool.and_eq_true, btw_t] at h
  exact ⟨by omega, by simpa using h.2⟩
theorem step_V (lad : List RiseV) (k : Nat) (r : RiseV) (hk : k ≤ lad.length) : ((!(decide (1 ≤ r.by_) && decide (r.by_ ≤ 100000))) || (decide (0 < (k : Int)) && !(decide ((lad.getD ((k : Int) - 1).toNat default).fr + 1 ≤ r.fr) && decide (r.fr ≤ 100000)))) = !(stepOk (prevAt lad k) r) := by
  unfold stepOk
  cases k with
  | zero => unfold btw; simp [prevAt]
  | succ k =>
    have e1 : (((k + 1 : Nat) : Int) - 1).toNat = k := by omega
    have e2 : decide ((0 : Int) < ((k + 1 : Nat) : Int)) = true := decide_eq_true (by omega)
    have e3 : prevAt lad (k + 1) = some (lad.getD k default).fr := by
      rw [prevAt, List.getD_eq_getElem?_getD, List.getElem?_eq_getElem (by omega)]; rfl
    rw [e1, e2, e3, Bool.true_and, ← Bool.not_and]; rfl
theorem step_fr {lad : List RiseV} {k : Nat} {r : RiseV} (hx : lad[k]? = some r) (h : stepOk (prevAt lad k) r = true) (hpv : ∀ j, j < k → 0 ≤ (lad.getD j default).fr ∧ (lad.getD j default).fr ≤ 100000) (hz : (lad.getD 0 default).fr = 0) : 0 ≤ r.fr ∧ r.fr ≤ 100000 := by
  have hr : lad.getD k default = r := by rw [List.getD_eq_getElem?_getD, hx]; rfl
  cases k with
  | zero => rw [hr] at hz; omega
  | succ k =>
    have hlt := (List.getElem?_eq_some_iff.1 hx).1
    have e3 : prevAt lad (k + 1) = some (lad.getD k default).fr := by
      rw [prevAt, List.getD_eq_getElem?_getD, List.getElem?_eq_getElem (by omega)]; rfl
    rw [e3] at h
    unfold stepOk at h
    have h1 := btw_t.1 (Bool.and_eq_true_iff.1 h).2
    have h2 := hpv k (by omega)
    omega
theorem getD_mem {α : Type} {l : List α} {k : Nat} {d : α} (h : k < l.length) : l.getD k d ∈ l := by
  rw [List.getD_eq_getElem?_getD, List.getElem?_eq_getElem h]; exact List.getElem_mem _
structure LotOk (st rv : Int) (lad : List RiseV) : Prop where
  st : 1 ≤ st ∧ st ≤ 100000
  rv : 0 ≤ rv ∧ rv ≤ 100000
  len : lad.length ≤ 8
  lad : LadOk lad
theorem ladG_inc : ∀ (lad : List RiseV) (pr : Option Int), ladG pr lad = true → (∀ r ∈ lad, 1 ≤ r.by_ ∧ r.by_ ≤ 100000) ∧ (∀ i, i + 1 < lad.length → (lad.getD i default).fr < (lad.getD (i + 1) default).fr)
  | [], _, _ => ⟨fun _ h => (by cases h), fun i h => (by simp at h)⟩
  | r :: l, pr, h => by
    rw [ladG, Bool.and_eq_true] at h
    obtain ⟨h1, h2⟩ := h
    obtain ⟨a, b⟩ := ladG_inc l _ h2
    have hb := btw_t.1 (Bool.and_eq_true_iff.1 h1).1
    refine ⟨fun q hq => ?_, fun i hi => ?_⟩
    · rcases List.mem_cons.1 hq with e | e
      · rw [e]; exact hb
      · exact a q e
    · cases i with
      | zero =>
        cases l with
        | nil => simp at hi
        | cons s l =>
          rw [ladG, Bool.and_eq_true] at h2
          have := btw_t.1 (Bool.and_eq_true_iff.1 h2.1).2
          show r.fr < s.fr
          omega
      | succ i => exact b i (by simpa using hi)
theorem lot_ok {st rv : Int} {lad : List RiseV} (h : lotB st rv lad = true) : LotOk st rv lad := by
  unfold lotB at h
  simp only [Bool.and_eq_true, btw_t] at h
  obtain ⟨⟨⟨⟨h1, h2⟩, h3⟩, h4⟩, h5⟩ := h
  obtain ⟨a, b⟩ := ladG_inc lad none h5
  exact ⟨h1, h2, by omega, ⟨by omega, by simpa using h4, b, a⟩⟩
theorem lotE_0 {st rv : Int} {lad : List RiseV} (h : (lotE st rv lad != 0) = false) : lotB st rv lad = true := by
  unfold lotE at h
  cases hb : lotB st rv lad with
  | true => rfl
  | false => rw [hb] at h; simp at h
theorem lotE_no {st rv : Int} {lad : List RiseV} (h : (lotE st rv lad != 0) = true) : lotB st rv lad = false := by
  unfold lotE at h
  cases hb : lotB st rv lad with
  | true => rw [hb] at h; simp at h
  | false => rfl
/-- the step from p at rung a of the ladder -/
theorem at_next {lad : List RiseV} (h : LadOk lad) {a : Nat} {p : Int} (h1 : a < lad.length) (h2 : (lad.getD a default).fr ≤ p) (h3 : ¬ (a + 1 < lad.length ∧ (lad.getD (a + 1) default).fr ≤ p)) : p + (lad.getD a default).by_ = nx lad p := by
  unfold nx
  rw [byR_at h ⟨h1, h2, fun h4 => by omega⟩]
theorem rg_get {lad : List RiseV} (h : LadOk lad) {st p : Int} {k : Nat} (h0 : 0 ≤ p) (hp : p ≤ 100000) (hd : (rgL lad st).drop k = rgL lad p) : (rgL lad st)[k]? = some p ∧ (rgL lad st).drop (k + 1) = rgL lad (nx lad p) := by
  rw [rgL_step h h0, if_pos hp] at hd
  refine ⟨?_, ?_⟩
  · have := congrArg (fun l => l[0]?) hd
    simpa using this
  · have := congrArg List.tail hd
    simpa using this
theorem rg_end {lad : List RiseV} (h : LadOk lad) {st p : Int} {k : Nat} (h0 : 0 ≤ p) (hp : ¬ p ≤ 100000) (hk : k ≤ (rgL lad st).length) (hd : (rgL lad st).drop k = rgL lad p) : k = (rgL lad st).length := by
  rw [rgL_step h h0, if_neg hp] at hd
  have := congrArg List.length hd
  simp at this
  omega
theorem rungF_drop (n out : Int) (rs : List Int) (k : Nat) (p : Int) (h : rs[k]? = some p) : rungF n (rs.drop k) out = if n < p then out else rungF n (rs.drop (k + 1)) p := by
  obtain ⟨h1, h2⟩ := List.getElem?_eq_some_iff.1 h
  rw [List.drop_eq_getElem_cons h1, h2, rungF]
theorem behF_drop (n : Int) (rs : List Int) (k : Nat) (p : Int) (h : rs[k]? = some p) : behF n (rs.drop k) = if n < p then p else behF n (rs.drop (k + 1)) := by
  obtain ⟨h1, h2⟩ := List.getElem?_eq_some_iff.1 h
  rw [List.drop_eq_getElem_cons h1, h2, behF]
def TB (J Jx : List Fact → Nat → World → Prop) (k : Nat) (b : Bool) (W : World) : Prop := if b = true then J [] k W else Jx [] k W
def rungR (st : Int) (lad : List RiseV) (n : Int) : Int := rungF n (rgL lad st) 0
/-- the least rung that a lot is sold at -/
def leastR (st rv : Int) (lad : List RiseV) : Int := behF (rv - 1) (rgL lad st)
end Go.Proofs.YtppfniekcgnmjaaGreat.Au
namespace Go.Proofs.YtppfniekcgnmjaaGreat.Au
open Go.Sx Go.RowKit
set_option maxRecDepth 20000
theorem fa112_0 : FieldIs Tryz.prog 112 0 0 3 true := ⟨⟨_, _, Tryz.underlying112, rfl, rfl, Tryz.sizeOf62, Tryz.isAgg62, by decide⟩⟩
theorem fa117_0 : FieldIs Tryz.prog 117 0 0 1 false := ⟨⟨_, _, Tryz.underlying117, rfl, rfl, Tryz.sizeOf3, Tryz.isAgg3, by decide⟩⟩
theorem fa117_1 : FieldIs Tryz.prog 117 1 1 1 false := ⟨⟨_, _, Tryz.underlying117, rfl, rfl, Tryz.sizeOf3, Tryz.isAgg3, by decide⟩⟩
theorem fa62_0 : FieldIs Tryz.prog 62 0 0 1 false := ⟨⟨_, _, Tryz.underlying62, rfl, rfl, Tryz.sizeOf3, Tryz.isAgg3, by decide⟩⟩
theorem fa62_1 : FieldIs Tryz.prog 62 1 1 1 false := ⟨⟨_, _, Tryz.underlying62, rfl, rfl, Tryz.sizeOf3, Tryz.isAgg3, by decide⟩⟩
theorem fa62_2 : FieldIs Tryz.prog 62 2 2 1 false := ⟨⟨_, _, Tryz.underlying62, rfl, rfl, Tryz.sizeOf60, Tryz.isAgg60, by decide⟩⟩
end Go.Proofs.YtppfniekcgnmjaaGreat.Au
namespace Go.Proofs.YtppfniekcgnmjaaGreat.Au
open Go.Sx Go.RowKit Am
set_option maxRecDepth 20000
theorem k_within (n lo hi : Int) (w : World)  : Calls Tryz.prog 78 #[.int .i64 n, .int .i64 lo, .int .i64 hi] w (fun e w' => e = .returned (.bool (decide (lo ≤ n) && decide (n ≤ hi))) ∧ Grow w w') := by
  refine enter_pure (args := [.int .i64 n, .int .i64 lo, .int .i64 hi]) [] Tryz.func78 rfl (by rw [Tryz.ntmps78]; simp) (by simp) ?_
  refine cj_seq ?_
  refine cj_regionG (gj_step (y_assign rfl) rfl rfl rfl (gj_nil ?_))
  refine ej_th (cj_seq ?_)
  refine cj_regionG (gj_step (y_move rfl) rfl rfl rfl (gj_step (y_move rfl) rfl rfl rfl (gj_step (y_geq rfl rfl) rfl rfl rfl (gj_step (y_move rfl) rfl rfl rfl (gj_g 3 10 13 rfl rfl rfl rfl (fun hg10 => gj_yes rfl rfl rfl (y_move rfl) rfl rfl (gj_yes rfl rfl rfl (y_move rfl) rfl rfl (gj_yes rfl rfl rfl (y_leq rfl rfl) rfl rfl (gj_nil rfl)))) (gj_step (y_and rfl rfl rfl) rfl rfl rfl (gj_step (y_assign rfl) rfl rfl rfl (gj_nil ?_))))))))
  refine ej_th (cj_ret ?_)
  exact ej_ret1 rfl Tryz.results78 rfl (fun w' hp => ⟨rfl, hp.below⟩)

theorem k_From (lo n hi : Int) (w : World)  : Calls Tryz.prog 11 #[.int .i64 lo, .int .i64 n, .int .i64 hi] w (fun e w' => e = .returned (.bool (decide (lo ≤ n) && decide (n ≤ hi))) ∧ Grow w w') := by
  refine enter_pure (args := [.int .i64 lo, .int .i64 n, .int .i64 hi]) [] Tryz.func11 rfl (by rw [Tryz.ntmps11]; simp) (by simp) ?_
  refine cj_seq ?_
  refine cj_regionG (gj_step (y_assign rfl) rfl rfl rfl (gj_nil ?_))
  refine ej_th (cj_seq ?_)
  refine cj_regionG (gj_step (y_move rfl) rfl rfl rfl (gj_step (y_move rfl) rfl rfl rfl (gj_step (y_leq rfl rfl) rfl rfl rfl (gj_step (y_move rfl) rfl rfl rfl (gj_g 3 10 13 rfl rfl rfl rfl (fun hg10 => gj_yes rfl rfl rfl (y_move rfl) rfl rfl (gj_yes rfl rfl rfl (y_move rfl) rfl rfl (gj_yes rfl rfl rfl (y_leq rfl rfl) rfl rfl (gj_nil rfl)))) (gj_step (y_and rfl rfl rfl) rfl rfl rfl (gj_step (y_assign rfl) rfl rfl rfl (gj_nil ?_))))))))
  refine ej_th (cj_ret ?_)
  exact ej_ret1 rfl Tryz.results11 rfl (fun w' hp => ⟨rfl, hp.below⟩)

theorem k_Check (st rv : Int) (lad : List RiseV) (Al : Option Addr) (cl : Nat) (w : World) (hlad : Rd w 2 encRi Al lad) : Calls Tryz.prog 48 #[.agg #[.int .i64 st, .int .i64 rv, .slice Al lad.length cl]] w (fun e w' => e = .returned (.int .i64 (lotE st rv lad)) ∧ Grow w w') := by
  have hlen := hlad.len
  refine enter_pure (args := [.agg #[.int .i64 st, .int .i64 rv, .slice Al lad.length cl]]) [sl (fun b => b < w.heap.size) 2 encRi Al lad] Tryz.func48 rfl (by rw [Tryz.ntmps48]; simp) (fun g hg => by simp at hg; subst hg; exact ⟨hlad, fun _ h => h⟩) ?_
  refine cj_seq (cj_region ?_)
  refine oj_box rfl rfl rfl (fun b1 => ?_)
  refine oj_step (y_assign rfl) rfl rfl rfl ?_
  refine oj_nil ?_
  refine ej_th (cj_seq (cj_seq ?_))
  refine cj_regionG ?_
  refine gj_step (y_fa0 fa62_0 rfl) rfl rfl rfl (gj_step (y_load1 Tryz.isAgg3 rfl rfl) rfl rfl rfl (?_))
  refine gj_step (y_call Tryz.call78 rfl (fun w hp => k_within _ _ _ w)) rfl rfl rfl ?_
  refine gj_step (y_not rfl) rfl rfl rfl (gj_step (y_move rfl) rfl rfl rfl (?_))
  refine gj_g 4 9 13 rfl rfl rfl rfl (fun hg9 => gj_yes rfl rfl rfl (y_fa fa62_1 rfl) rfl rfl (gj_yes rfl rfl rfl (y_load1 Tryz.isAgg3 rfl rfl) rfl rfl (gj_yes rfl rfl rfl (y_call Tryz.call78 rfl (fun w hp => k_within _ _ _ w)) rfl rfl (gj_yes rfl rfl rfl (y_not rfl) rfl rfl (gj_nil rfl))))) ?_
  refine gj_step (y_or rfl rfl rfl) rfl rfl rfl (gj_step (y_move rfl) rfl rfl rfl (?_))
  refine gj_g 5 15 20 rfl rfl rfl rfl (fun hg15 => gj_yes rfl rfl rfl (y_fa fa62_2 rfl) rfl rfl (gj_yes rfl rfl rfl (y_load1 Tryz.isAgg60 rfl rfl) rfl rfl (gj_yes rfl rfl rfl (y_lenA Tryz.underlying60 rfl) rfl rfl (gj_yes rfl rfl rfl (y_call Tryz.call78 rfl (fun w hp => k_within _ _ _ w)) rfl rfl (gj_yes rfl rfl rfl (y_not rfl) rfl rfl (gj_nil rfl)))))) ?_
  refine gj_step (y_or rfl rfl rfl) rfl rfl rfl (gj_step (y_move rfl) rfl rfl rfl (?_))
  refine gj_g 6 22 28 rfl rfl rfl rfl (fun hg22 => gj_yes rfl rfl rfl (y_fa fa62_2 rfl) rfl rfl (gj_yes rfl rfl rfl (y_load1 Tryz.isAgg60 rfl rfl) rfl rfl (gj_yes rfl rfl rfl (y_ixR (reads_sl) Tryz.underlying60 Tryz.sizeOf117 rfl rfl (⟨by omega, by have := hg22; simp only [sxb] at this; omega⟩)) rfl rfl (gj_yes rfl rfl rfl (y_faE fa117_0 rfl) rfl rfl (gj_yes rfl rfl rfl (y_ld1 (reads_sl) Tryz.isAgg3 rfl (geq default (by have := hg22; simp only [sxb] at this; omega)) rfl) rfl rfl (gj_yes rfl rfl rfl (y_neq rfl rfl) rfl rfl (gj_nil rfl))))))) ?_
  refine gj_step (y_or rfl rfl rfl) rfl rfl rfl (?_)
  refine gj_nil ?_
  refine ej_th ?_
  refine cj_cond rfl (fun h29 => ?_) (fun h29 => ?_)
  · have h29b := h29
    try simp only [sxb] at h29
    rw [lotH_V] at h29b
    have hno := not_t h29b
    refine cj_seq ?_
    refine cj_regionG (gj_step (y_assign rfl) rfl rfl rfl (gj_nil ?_))
    refine ej_th (cj_ret (ej_then_ret ?_))
    refine ej_ret1 rfl Tryz.results48 rfl (fun w' hp => ⟨?_, hp.below⟩)
    rw [lotE, lotB_H, hno]; rfl
  · have h29b := h29
    try simp only [sxb] at h29
    rw [lotH_V] at h29b
    have hyes := not_f h29b
    have hz : (lad.getD 0 default).fr = 0 := (lotH_z hyes).2
    refine cj_skip (ej_th (cj_seq (cj_seq ?_)))
    refine cj_regionG (gj_step (y_fa fa62_2 rfl) rfl rfl rfl (gj_step (y_load1 Tryz.isAgg60 rfl rfl) rfl rfl rfl (gj_step (y_lenA Tryz.underlying60 rfl) rfl rfl rfl (gj_step (y_move rfl) rfl rfl rfl (gj_nil ?_)))))
    refine ej_th (cj_block ?_)
    refine cj_lpic (X := Nat) [(1, _), (31, _), (32, _)] (fun k => k ≤ lad.length ∧ (∀ j, j < k → 0 ≤ (lad.getD j default).fr ∧ (lad.getD j default).fr ≤ 100000) ∧ ladG (prevAt lad k) (lad.drop k) = ladG none lad) (fun k => [(33, .int .i64 k)]) (fun k => lad.length - k) 0 (⟨Nat.zero_le _, fun j h => absurd h (Nat.not_lt_zero _), rfl⟩) ⟨rfl, rfl, rfl, rfl, trivial⟩ ?_
    rintro k ⟨hk, hpv, hsk⟩
    dsimp only [List.cons_append, List.nil_append]
    refine cj_seq ?_
    refine cj_regionG (gj_step (y_lss rfl rfl) rfl rfl rfl (gj_nil ?_))
    refine ej_th (cj_seq ?_)
    refine cj_cond rfl (fun h34 => ?_) (fun h34 => ?_)
    · have h34b := h34
      try simp only [sxb] at h34
      obtain ⟨r, hx⟩ : ∃ r, lad[k]? = some r := ⟨_, List.getElem?_eq_getElem (by omega)⟩
      rw [ladG_drop lad k r hx] at hsk
      have hgr : lad.getD k default = r := by rw [List.getD_eq_getElem?_getD, hx]; rfl
      have hV := step_V lad k r hk
      refine cj_skip (ej_th (cj_seq (cj_block (cj_seq (cj_region ?_)))))
      refine oj_step (y_move rfl) rfl rfl rfl ?_
      refine oj_step (y_ixR (reads_sl) Tryz.underlying60 Tryz.sizeOf117 rfl rfl (⟨by omega, by omega⟩)) rfl rfl rfl ?_
      refine oj_step (y_ldW (reads_sl) Tryz.isAgg117 Tryz.sizeOf117 rfl (hx) (fun _ => rfl)) rfl rfl rfl ?_
      refine oj_alloc Tryz.zeroValue117 rfl rfl (fun b4 => ?_)
      refine oj_step (y_assign rfl) rfl rfl rfl ?_
      refine oj_store rfl rfl rfl rfl Tryz.sizeOf117 rfl ?_
      refine oj_nil ?_
      refine ej_th (cj_seq ?_)
      refine cj_draw (by kernel_rfl) (by kernel_rfl) ?_
      refine gj_step (y_fa fa117_1 rfl) rfl rfl rfl (gj_step (y_load1 Tryz.isAgg3 rfl rfl) rfl rfl rfl (?_))
      refine gj_step (y_call Tryz.call78 rfl (fun w hp => k_within _ _ _ w)) rfl rfl rfl ?_
      refine gj_step (y_not rfl) rfl rfl rfl (gj_step (y_move rfl) rfl rfl rfl (?_))
      refine gj_g 16 42 58 rfl rfl rfl rfl (fun hg42 => gj_yes rfl rfl rfl (y_move rfl) rfl rfl (gj_yes rfl rfl rfl (y_gtr rfl rfl) rfl rfl (gj_yes rfl rfl rfl (y_move rfl) rfl rfl (gj_g 12 45 57 rfl rfl rfl rfl (fun hg45 => gj_yes rfl rfl rfl (y_fa0 fa117_0 rfl) rfl rfl (gj_yes rfl rfl rfl (y_load1 Tryz.isAgg3 rfl rfl) rfl rfl (gj_yes rfl rfl rfl (y_fa fa62_2 rfl) rfl rfl (gj_yes rfl rfl rfl (y_load1 Tryz.isAgg60 rfl rfl) rfl rfl (gj_yes rfl rfl rfl (y_move rfl) rfl rfl (gj_yes rfl rfl rfl (y_sub rfl rfl (by omega)) rfl rfl (gj_yes rfl rfl rfl (y_ixR (reads_sl) Tryz.underlying60 Tryz.sizeOf117 rfl rfl (⟨by have := hg45; simp only [sxb] at this; omega, by have := hg45; simp only [sxb] at this; omega⟩)) rfl rfl (gj_yes rfl rfl rfl (y_faE fa117_0 rfl) rfl rfl (gj_yes rfl rfl rfl (y_ld1 (reads_sl) Tryz.isAgg3 rfl (geq default (by have := hg45; simp only [sxb] at this; omega)) rfl) rfl rfl (gj_yes rfl rfl rfl (y_add rfl rfl (by have := hpv ((k : Int) - 1).toNat (by have := hg45; simp only [sxb] at this; omega); omega)) rfl rfl (gj_yes rfl rfl rfl (y_call Tryz.call78 rfl (fun w hp => k_within _ _ _ w)) rfl rfl (gj_yes rfl rfl rfl (y_not rfl) rfl rfl (gj_nil rfl))))))))))))) (gj_yes rfl rfl rfl (y_and rfl rfl rfl) rfl rfl (gj_nil rfl)))))) ?_
      refine gj_step (y_or rfl rfl rfl) rfl rfl rfl (?_)
      refine gj_nil ?_
      refine ej_th ?_
      refine cj_cond rfl (fun h59 => ?_) (fun h59 => ?_)
      · have h59b := h59
        try simp only [sxb] at h59
        rw [hV] at h59b
        refine cj_seq ?_
        refine cj_regionG (gj_step (y_assign rfl) rfl rfl rfl (gj_nil ?_))
        refine ej_th (cj_ret (ej_blk_ret (ej_then_ret (ej_then_ret (ej_blk_ret (ej_then_ret ?_))))))
        refine ej_ret1 rfl Tryz.results48 rfl (fun w' hp => ⟨?_, hp.below⟩)
        rw [lotE, lotB_H, hyes, ← hsk, not_t h59b]; rfl
      · have h59b := h59
        try simp only [sxb] at h59
        rw [hV] at h59b
        have hstep := not_f h59b
        have hfr : 0 ≤ r.fr ∧ r.fr ≤ 100000 := step_fr hx hstep hpv hz
        refine cj_skip (ej_blk (ej_th ?_))
        refine cj_regionG (gj_step (y_add rfl rfl (by omega)) rfl rfl rfl (gj_step (y_move rfl) rfl rfl rfl (gj_nil ?_)))
        refine ej_nx (k + 1) (by omega) ⟨by omega, fun j hj => ?_, by rw [← hsk, hstep, Bool.true_and]⟩ ⟨rfl, rfl, rfl, rfl, trivial⟩
        by_cases e : j = k
        · rw [e, hgr]; exact hfr
        · exact hpv j (by omega)
    · have h34b := h34
      try simp only [sxb] at h34
      refine cj_exit (ej_then_exit (ej_then_exit (ej_blk_hit (ej_th (cj_seq ?_)))))
      refine cj_regionG (gj_step (y_assign rfl) rfl rfl rfl (gj_nil ?_))
      refine ej_th (cj_ret ?_)
      refine ej_ret1 rfl Tryz.results48 rfl (fun w' hp => ⟨?_, hp.below⟩)
      rw [lotE, lotB_H, hyes, ← hsk, List.drop_of_length_le (by omega)]; rfl

theorem k_rungs1 (st rv : Int) (lad : List RiseV) (Al : Option Addr) (cl : Nat) (bx : Nat) (fp : Nat → Prop) (hok : LotOk st rv lad) : IterX Tryz.prog 106 #[.pointer (some ⟨bx, 0, none⟩)] (fun p : Int => [.int .i64 p]) (rgL lad st) [ownB bx (cellsB 112 [.int .i64 st, .int .i64 rv, .slice Al lad.length cl]), sl fp 2 encRi Al lad] := by
  intro l J Jx w hgr hadd hdrop hfacts hgrx hdrx hfx hround hJ0
  have hst := hok.st
  have hl8 := hok.len
  have hll := hok.lad
  have hl1 := hll.ne
  have hlz := hll.zero
  refine enter_pure (args := [.func (.yield l) #[] #[], .pointer (some ⟨bx, 0, none⟩)]) [ownB bx (cellsB 112 [.int .i64 st, .int .i64 rv, .slice Al lad.length cl]), sl fp 2 encRi Al lad] Tryz.func106 rfl (by rw [Tryz.ntmps106]; simp) (fun g hg => hfacts [] 0 w hJ0 g (List.mem_append_left _ hg)) ?_
  refine cj_seq ?_
  refine cj_regionG (gj_step (y_assign rfl) rfl rfl rfl (gj_nil ?_))
  refine ej_th (cj_seq ?_)
  refine cj_regionG (gj_step (y_fa0 fa112_0 rfl) rfl rfl rfl (gj_step (y_fa0 fa62_0 rfl) rfl rfl rfl (gj_step (y_loadS1 Tryz.isAgg3 rfl rfl) rfl rfl rfl (gj_step (y_assign rfl) rfl rfl rfl (gj_nil ?_)))))
  refine ej_th (cj_block ?_)
  refine cj_loopB (X := Nat × Nat × Int) (fun ⟨k, a, p⟩ => k ≤ (rgL lad st).length ∧ (a < lad.length ∧ (lad.getD a default).fr ≤ p) ∧ (1 ≤ p ∧ p ≤ 200000) ∧ (rgL lad st).drop k = rgL lad p) (fun ⟨k, a, p⟩ => [(0, .func (.yield l) #[] #[]), (1, .pointer (some ⟨bx, 0, none⟩)), (3, .int .i64 (a : Nat)), (4, .int .i64 p)]) (fun ⟨k, a, p⟩ => fun W => J [] k W) [ownB bx (cellsB 112 [.int .i64 st, .int .i64 rv, .slice Al lad.length cl]), sl fp 2 encRi Al lad] (fun ⟨k, a, p⟩ => (200001 - p).toNat) (0, 0, st) (⟨Nat.zero_le _, ⟨by omega, by omega⟩, by omega, rfl⟩) ⟨rfl, rfl, rfl, rfl, trivial⟩ (fun w1 hp => hgr _ _ _ _ hJ0 hp.below) (fun x W h g hg => hfacts [] _ W h g (List.mem_append_left _ hg)) ?_
  rintro ⟨k, a, p⟩ W ⟨hk, ⟨hal, haf⟩, hpb, hsk⟩ hJW
  refine cj_seq (cj_seq ?_)
  refine cj_regionG (gj_step (y_move rfl) rfl rfl rfl (gj_step (y_leq rfl rfl) rfl rfl rfl (gj_nil ?_)))
  refine ej_th ?_
  refine cj_cond rfl (fun h9 => ?_) (fun h9 => ?_)
  · have h9b := h9
    try simp only [sxb] at h9
    obtain ⟨hget, hdn⟩ := rg_get hll (by omega) (by omega) hsk
    refine cj_skip (ej_th (cj_seq (cj_block (cj_seq (cj_seq (cj_region ?_))))))
    refine oj_step (y_move rfl) rfl rfl rfl ?_
    refine oj_step (y_move rfl) rfl rfl rfl ?_
    refine oj_yieldB (T := TB J Jx (k + 1)) [ownB bx (cellsB 112 [.int .i64 st, .int .i64 rv, .slice Al lad.length cl]), sl fp 2 encRi Al lad] rfl rfl rfl (fun w1 hp => hround [] k p w1 hget (hgr _ _ _ _ hJW hp.below)) rfl (fun b W h g hg => ?_) (fun b21 W21 hT21 => ?_)
    · cases b with
      | true => exact hfacts [] _ W h g (List.mem_append_left _ hg)
      | false => exact hfx [] _ W h g (List.mem_append_left _ hg)
    rotate_left
    refine oj_step (y_not rfl) rfl rfl rfl ?_
    refine oj_nil ?_
    refine ej_th ?_
    refine cj_cond rfl (fun h22 => ?_) (fun h22 => ?_)
    · have h22b := h22
      try simp only [sxb] at h22
      have hb21 : b21 = false := not_t h22b
      subst hb21
      refine cj_ret (ej_then_ret (ej_blk_ret (ej_then_ret (ej_then_ret (ej_blk_ret ?_)))))
      exact ej_ret0 rfl Tryz.results106 (fun w' hp => ⟨⟨_, rfl⟩, .inr ⟨k + 1, hgrx _ _ _ _ hT21 hp.below⟩⟩)
    · have h22b := h22
      try simp only [sxb] at h22
      have hb21 : b21 = true := not_f h22b
      subst hb21
      have hJ2 : J [] (k + 1) W21 := hT21
      have hkl := (List.getElem?_eq_some_iff.1 hget).1
      refine cj_skip (ej_th (cj_block ?_))
      refine cj_loopB (X := Nat) (fun b => b < lad.length ∧ (lad.getD b default).fr ≤ p) (fun b => [(0, .func (.yield l) #[] #[]), (1, .pointer (some ⟨bx, 0, none⟩)), (3, .int .i64 (b : Nat)), (4, .int .i64 p)]) (fun b => fun W => J [] (k + 1) W) [ownB bx (cellsB 112 [.int .i64 st, .int .i64 rv, .slice Al lad.length cl]), sl fp 2 encRi Al lad] (fun b => lad.length - b) a (⟨hal, haf⟩) ⟨rfl, rfl, rfl, rfl, trivial⟩ (fun w1 hp => hgr _ _ _ _ hJ2 hp.below) (fun x W h g hg => hfacts [] _ W h g (List.mem_append_left _ hg)) ?_
      rintro b W2 ⟨hbl, hbf⟩ hJW2
      refine cj_seq (cj_seq ?_)
      refine cj_regionG (gj_step (y_move rfl) rfl rfl rfl (gj_step (y_add rfl rfl (by omega)) rfl rfl rfl (gj_step (y_fa0 fa112_0 rfl) rfl rfl rfl (gj_step (y_fa fa62_2 rfl) rfl rfl rfl (gj_step (y_loadS1 Tryz.isAgg60 rfl rfl) rfl rfl rfl (gj_step (y_lenA Tryz.underlying60 rfl) rfl rfl rfl (gj_step (y_lss rfl rfl) rfl rfl rfl (gj_step (y_move rfl) rfl rfl rfl (gj_g 10 30 40 rfl rfl rfl rfl (fun hg30 => gj_yes rfl rfl rfl (y_fa0 fa112_0 rfl) rfl rfl (gj_yes rfl rfl rfl (y_fa fa62_2 rfl) rfl rfl (gj_yes rfl rfl rfl (y_loadS1 Tryz.isAgg60 rfl rfl) rfl rfl (gj_yes rfl rfl rfl (y_move rfl) rfl rfl (gj_yes rfl rfl rfl (y_add rfl rfl (by omega)) rfl rfl (gj_yes rfl rfl rfl (y_ixR (reads_sl) Tryz.underlying60 Tryz.sizeOf117 rfl rfl (⟨by have := hg30; simp only [sxb] at this; omega, by have := hg30; simp only [sxb] at this; omega⟩)) rfl rfl (gj_yes rfl rfl rfl (y_faE fa117_0 rfl) rfl rfl (gj_yes rfl rfl rfl (y_ld1 (reads_sl) Tryz.isAgg3 rfl (geq default (by have := hg30; simp only [sxb] at this; omega)) rfl) rfl rfl (gj_yes rfl rfl rfl (y_move rfl) rfl rfl (gj_yes rfl rfl rfl (y_leq rfl rfl) rfl rfl (gj_nil rfl))))))))))) (gj_step (y_and rfl rfl rfl) rfl rfl rfl (gj_nil ?_)))))))))))
      refine ej_th ?_
      refine cj_cond rfl (fun h41 => ?_) (fun h41 => ?_)
      · have h41b := h41
        try simp only [sxb] at h41
        rw [show (((b : Nat) : Int) + 1).toNat = b + 1 by omega] at h41b
        simp only [sxb] at h41b
        refine cj_skip (ej_th (cj_block ?_))
        refine cj_regionG (gj_step (y_move rfl) rfl rfl rfl (gj_step (y_add rfl rfl (by omega)) rfl rfl rfl (gj_step (y_assign rfl) rfl rfl rfl (gj_nil ?_))))
        refine ej_blk ?_
        rw [show ((b : Nat) : Int) + 1 = ((b + 1 : Nat) : Int) by omega]
        exact ej_nxB (b + 1) (by omega) ⟨by omega, by omega⟩ ⟨rfl, rfl, rfl, rfl, trivial⟩ (fun w1 hg => hgr _ _ _ _ hJW2 hg)
      · have h41b := h41
        try simp only [sxb] at h41
        rw [show (((b : Nat) : Int) + 1).toNat = b + 1 by omega] at h41b
        simp only [sxb] at h41b
        refine cj_exit (ej_then_exit (ej_then_exit (ej_blk_hit (ej_blk (ej_th ?_)))))
        refine cj_regionG (gj_step (y_move rfl) rfl rfl rfl (gj_step (y_fa0 fa112_0 rfl) rfl rfl rfl (gj_step (y_fa fa62_2 rfl) rfl rfl rfl (gj_step (y_loadS1 Tryz.isAgg60 rfl rfl) rfl rfl rfl (gj_step (y_move rfl) rfl rfl rfl (gj_step (y_ixR (reads_sl) Tryz.underlying60 Tryz.sizeOf117 rfl rfl (⟨by omega, by omega⟩)) rfl rfl rfl (gj_step (y_faE fa117_1 rfl) rfl rfl rfl (gj_step (y_ld1 (reads_sl) Tryz.isAgg3 rfl (geq default (by omega)) rfl) rfl rfl rfl (gj_step (y_add rfl rfl (by have := (hll.by1 _ (getD_mem (d := default) (by omega : b < lad.length))); rw [show ((b : Nat) : Int).toNat = b by omega]; omega)) rfl rfl rfl (gj_step (y_assign rfl) rfl rfl rfl (gj_nil ?_)))))))))))
        have hnx := at_next hll hbl hbf (fun h => by omega)
        have hby := byR_bd hll (p := p) (by omega)
        have hnp : nx lad p = p + byR lad p := rfl
        rw [show ((b : Nat) : Int).toNat = b by omega, hnx]
        exact ej_nxB (k + 1, b, nx lad p) (by first | omega | (simp only; omega)) ⟨by first | omega | (simp only; omega), ⟨hbl, by first | omega | (simp only; omega)⟩, by first | omega | (simp only; omega), hdn⟩ ⟨rfl, rfl, rfl, rfl, trivial⟩ (fun w1 hg => hgr _ _ _ _ hJW2 hg)
  · have h9b := h9
    try simp only [sxb] at h9
    have hke := rg_end hll (by omega) (by omega) hk hsk
    subst hke
    refine cj_exit (ej_then_exit (ej_then_exit (ej_blk_hit ?_)))
    exact ej_end0 rfl Tryz.results106 (fun w' hp => ⟨⟨_, rfl⟩, .inl (hgr _ _ _ _ hJW hp.below)⟩)

theorem k_rungs (st rv : Int) (lad : List RiseV) (Al : Option Addr) (cl : Nat) (w : World)  : Calls Tryz.prog 85 #[.agg #[.int .i64 st, .int .i64 rv, .slice Al lad.length cl]] w (fun e w' => ∃ x : Nat, e = .returned (.func (.func 106) #[] #[.pointer (some ⟨x, 0, none⟩)]) ∧ Grow w w' ∧ (∀ g ∈ ([] : List Fact), g.P w' ∧ ∀ b, g.fp b → w.heap.size ≤ b ∧ b < w'.heap.size) ∧ ([] : List Fact).Pairwise (fun f g => ∀ b, f.fp b → ¬ g.fp b) ∧ (∀ g ∈ [ownB x (cellsB 112 [.int .i64 st, .int .i64 rv, .slice Al lad.length cl])], g.P w' ∧ ∀ b, g.fp b → w.heap.size ≤ b ∧ b < w'.heap.size ∧ ∀ o ∈ ([] : List Fact), ¬ o.fp b)) := by
  refine enter_pure (args := [.agg #[.int .i64 st, .int .i64 rv, .slice Al lad.length cl]]) [] Tryz.func85 rfl (by rw [Tryz.ntmps85]; simp) (by simp) ?_
  refine cj_seq (cj_region ?_)
  refine oj_box rfl rfl rfl (fun b1 => ?_)
  refine oj_step (y_assign rfl) rfl rfl rfl ?_
  refine oj_nil ?_
  refine ej_th (cj_seq ?_)
  refine cj_regionG (gj_step (y_makeFunc rfl rfl) rfl rfl rfl (gj_step (y_assign rfl) rfl rfl rfl (gj_nil ?_)))
  refine ej_th (cj_ret ?_)
  exact ej_ret1 rfl Tryz.results85 rfl (fun w' hp => ⟨b1, rfl, hp.below, by simp, List.Pairwise.nil, fun g hg => ⟨(hp.own g hg).1, fun b hb => ⟨Nat.le_of_not_lt ((hp.own g hg).2 b hb).2, ((hp.own g hg).2 b hb).1, by simp⟩⟩⟩)

theorem k_rung (st rv : Int) (lad : List RiseV) (Al : Option Addr) (cl : Nat) (n : Int) (w : World) (hlad : Rd w 2 encRi Al lad) (hok : LotOk st rv lad) : Calls Tryz.prog 103 #[.agg #[.int .i64 st, .int .i64 rv, .slice Al lad.length cl], .int .i64 n] w (fun e w' => e = .returned (.int .i64 (rungR st lad n)) ∧ Grow w w') := by
  refine enter_pureM (args := [.agg #[.int .i64 st, .int .i64 rv, .slice Al lad.length cl], .int .i64 n]) [sl (fun b => b < w.heap.size) 2 encRi Al lad] Tryz.func103 rfl (by rw [Tryz.ntmps103]; simp) (fun g hg => by simp at hg; subst hg; exact ⟨hlad, fun _ h => h⟩) ?_
  refine cj_seq (cj_region ?_)
  refine oj_box rfl rfl rfl (fun b2 => ?_)
  refine oj_box rfl rfl rfl (fun b3 => ?_)
  refine oj_step (y_assign rfl) rfl rfl rfl ?_
  refine oj_nil ?_
  refine ej_th (cj_seq (cj_region ?_))
  refine oj_alloc Tryz.zeroValue3 rfl rfl (fun b5 => ?_)
  refine oj_store rfl rfl rfl rfl Tryz.sizeOf3 rfl ?_
  refine oj_nil ?_
  refine ej_th (cj_seq (cj_seq (cj_region ?_)))
  refine oj_step (y_loadN Tryz.isAgg112 Tryz.sizeOf112 rfl) rfl rfl rfl ?_
  refine oj_call (X := Nat) (fun z => .func (.func 106) #[] #[.pointer (some ⟨z, 0, none⟩)]) (fun _ => []) (fun z => [ownB z (cellsB 112 [.int .i64 st, .int .i64 rv, .slice Al lad.length cl])]) Tryz.call85 rfl (fun w hp => k_rungs st rv lad Al cl w) rfl (fun bx => ?_)
  dsimp only [List.nil_append, List.cons_append]
  refine oj_nil ?_
  refine ej_th (cj_block ?_)
  refine cj_rangeX (k_rungs1 st rv lad Al cl bx (fun b => b < w.heap.size) hok) (Y := Int) (Z := Unit) (fun k y => rungF n ((rgL lad st).drop k) y = rungF n (rgL lad st) 0) (fun _ y => [ownB b5 (cellsB 3 [.int .i64 y]), ownB b3 (cellsB 3 [.int .i64 n]), ownB b2 (cellsB 112 [.int .i64 st, .int .i64 rv, .slice Al lad.length cl])]) (fun _ => .exit 0) (fun _ => [ownB b5 (cellsB 3 [.int .i64 (rungF n (rgL lad st) 0)]), ownB b3 (cellsB 3 [.int .i64 n]), ownB b2 (cellsB 112 [.int .i64 st, .int .i64 rv, .slice Al lad.length cl])]) (0 : Int) rfl rfl Tryz.call106 (fun _ => rfl) rfl ?_ ?_ ?_
  · rintro Xs lo Db r0 r1 k p y hp9 hy
    rw [rungF_drop n y _ k p hp9] at hy
    dsimp only [List.cons_append, List.nil_append]
    refine cj_regionG (gj_step (y_assign rfl) rfl rfl rfl (gj_nil ?_))
    refine ej_beg (cj_block (cj_seq (cj_seq ?_)))
    refine cj_regionG (gj_step (y_move rfl) rfl rfl rfl (gj_step (y_load1 Tryz.isAgg3 rfl rfl) rfl rfl rfl (gj_step (y_gtr rfl rfl) rfl rfl rfl (gj_nil ?_))))
    refine ej_th ?_
    refine cj_cond rfl (fun h12 => ?_) (fun h12 => ?_)
    · have h12b := h12
      try simp only [sxb] at h12
      refine cj_exit (ej_then_exit (ej_blk_pass rfl ?_))
      rw [if_pos (by omega)] at hy
      subst hy
      exact ej_rdx () rfl
    · have h12b := h12
      try simp only [sxb] at h12
      refine cj_skip (ej_th (cj_region ?_))
      refine oj_step (y_move rfl) rfl rfl rfl ?_
      refine oj_store rfl rfl rfl rfl Tryz.sizeOf3 rfl ?_
      refine oj_nil ?_
      refine ej_blk ?_
      rw [if_neg (by omega)] at hy
      exact ej_rd p hy
  · rintro Db y hy
    rw [List.drop_of_length_le (Nat.le_refl _)] at hy
    have hy2 : y = rungF n (rgL lad st) 0 := hy
    subst hy2
    refine ej_blk (ej_th (cj_seq ?_))
    refine cj_regionG (gj_step (y_load1 Tryz.isAgg3 rfl rfl) rfl rfl rfl (gj_step (y_assign rfl) rfl rfl rfl (gj_nil ?_)))
    refine ej_th (cj_ret ?_)
    exact ej_retM1 rfl Tryz.results103 rfl (fun w' hp => ⟨rfl, hp.below⟩)
  · rintro Db -
    refine cj_exit (ej_blk_hit (ej_th (cj_seq ?_)))
    refine cj_regionG (gj_step (y_load1 Tryz.isAgg3 rfl rfl) rfl rfl rfl (gj_step (y_assign rfl) rfl rfl rfl (gj_nil ?_)))
    refine ej_th (cj_ret ?_)
    exact ej_retM1 rfl Tryz.results103 rfl (fun w' hp => ⟨rfl, hp.below⟩)

theorem k_behind (st rv : Int) (lad : List RiseV) (Al : Option Addr) (cl : Nat) (n : Int) (w : World) (hlad : Rd w 2 encRi Al lad) (hok : LotOk st rv lad) : Calls Tryz.prog 51 #[.agg #[.int .i64 st, .int .i64 rv, .slice Al lad.length cl], .int .i64 n] w (fun e w' => e = .returned (.int .i64 (behF n (rgL lad st))) ∧ Grow w w') := by
  refine enter_pureM (args := [.agg #[.int .i64 st, .int .i64 rv, .slice Al lad.length cl], .int .i64 n]) [sl (fun b => b < w.heap.size) 2 encRi Al lad] Tryz.func51 rfl (by rw [Tryz.ntmps51]; simp) (fun g hg => by simp at hg; subst hg; exact ⟨hlad, fun _ h => h⟩) ?_
  refine cj_seq (cj_region ?_)
  refine oj_box rfl rfl rfl (fun b2 => ?_)
  refine oj_box rfl rfl rfl (fun b3 => ?_)
  refine oj_alloc Tryz.zeroValue3 rfl rfl (fun b4 => ?_)
  refine oj_nil ?_
  refine ej_th (cj_seq (cj_seq (cj_region ?_)))
  refine oj_step (y_loadN Tryz.isAgg112 Tryz.sizeOf112 rfl) rfl rfl rfl ?_
  refine oj_call (X := Nat) (fun z => .func (.func 106) #[] #[.pointer (some ⟨z, 0, none⟩)]) (fun _ => []) (fun z => [ownB z (cellsB 112 [.int .i64 st, .int .i64 rv, .slice Al lad.length cl])]) Tryz.call85 rfl (fun w hp => k_rungs st rv lad Al cl w) rfl (fun bx => ?_)
  dsimp only [List.nil_append, List.cons_append]
  refine oj_nil ?_
  refine ej_th (cj_block ?_)
  refine cj_rangeX (k_rungs1 st rv lad Al cl bx (fun b => b < w.heap.size) hok) (Y := Unit) (Z := Unit) (fun k _ => behF n ((rgL lad st).drop k) = behF n (rgL lad st)) (fun _ _ => [ownB b4 (cellsB 3 [.int .i64 0]), ownB b3 (cellsB 3 [.int .i64 n]), ownB b2 (cellsB 112 [.int .i64 st, .int .i64 rv, .slice Al lad.length cl])]) (fun _ => .ret) (fun _ => [ownB b4 (cellsB 3 [.int .i64 (behF n (rgL lad st))]), ownB b3 (cellsB 3 [.int .i64 n]), ownB b2 (cellsB 112 [.int .i64 st, .int .i64 rv, .slice Al lad.length cl])]) () rfl rfl Tryz.call106 (fun _ => rfl) rfl ?_ ?_ ?_
  · rintro Xs lo Db r0 r1 k p - hp9 hy
    rw [behF_drop n _ k p hp9] at hy
    dsimp only [List.cons_append, List.nil_append]
    refine cj_regionG (gj_step (y_assign rfl) rfl rfl rfl (gj_nil ?_))
    refine ej_beg (cj_block (cj_seq ?_))
    refine cj_regionG (gj_step (y_move rfl) rfl rfl rfl (gj_step (y_load1 Tryz.isAgg3 rfl rfl) rfl rfl rfl (gj_step (y_gtr rfl rfl) rfl rfl rfl (gj_nil ?_))))
    refine ej_th ?_
    refine cj_cond rfl (fun h11 => ?_) (fun h11 => ?_)
    · have h11b := h11
      try simp only [sxb] at h11
      refine cj_seq (cj_region ?_)
      refine oj_step (y_move rfl) rfl rfl rfl ?_
      refine oj_store rfl rfl rfl rfl Tryz.sizeOf3 rfl ?_
      refine oj_nil ?_
      refine ej_th (cj_ret (ej_blk_ret ?_))
      rw [if_pos (by omega)] at hy
      subst hy
      exact ej_rdr () rfl
    · have h11b := h11
      try simp only [sxb] at h11
      refine cj_skip (ej_blk ?_)
      rw [if_neg (by omega)] at hy
      exact ej_rd () hy
  · rintro Db - hy
    rw [List.drop_of_length_le (Nat.le_refl _)] at hy
    have hy2 : behF n (rgL lad st) = 0 := hy.symm
    refine ej_blk (ej_th (cj_seq (cj_region ?_)))
    refine oj_store rfl rfl rfl rfl Tryz.sizeOf3 rfl ?_
    refine oj_nil ?_
    refine ej_th (cj_ret ?_)
    exact ej_retMc1 rfl Tryz.results51 rfl (y_load1 Tryz.isAgg3 rfl rfl) (fun w' hp => ⟨by rw [hy2], hp.below⟩)
  · rintro Db -
    refine cj_ret (ej_blk_ret (ej_then_ret ?_))
    exact ej_retMc1 rfl Tryz.results51 rfl (y_load1 Tryz.isAgg3 rfl rfl) (fun w' hp => ⟨rfl, hp.below⟩)

end Go.Proofs.YtppfniekcgnmjaaGreat.Au
namespace Go.Proofs.YtppfniekcgnmjaaGreat.Au
open Go.Sx Go.RowKit
set_option maxRecDepth 20000

end Go.Proofs.YtppfniekcgnmjaaGreat.Au
namespace Go.Proofs.YtppfniekcgnmjaaGreat.Au
open Go.Sx Go.RowKit Am
set_option maxRecDepth 20000
end Go.Proofs.YtppfniekcgnmjaaGreat.Au
namespace Go.Sx
open Go.RowKit Go.Proofs Go.Sort Go.Shelf
variable {α : Type} [Inhabited α]
theorem flat_at (enc : α → List Value) (k : Nat) (hk : ∀ x, (enc x).length = k) (hk0 : 0 < k) (xs : List α) (t : Nat) (h : t < xs.length * k) : (xs.flatMap enc)[t]? = some ((flatK enc k xs.toArray)[t]!) := by
  have hq : t / k < xs.length := Nat.div_lt_of_lt_mul (by rw [Nat.mul_comm]; exact h)
  have hm : t % k < k := Nat.mod_lt _ hk0
  have he : t / k * k + t % k = t := by rw [Nat.mul_comm]; exact Nat.div_add_mod t k
  have hx : xs[t / k]? = some (xs[t / k]'hq) := List.getElem?_eq_getElem hq
  have h1 := flatMap_get enc k hk xs (t / k) _ (t % k) hx hm
  rw [he] at h1
  rw [h1, get_flatK enc k xs.toArray t (by simpa using h)]
  have h2 : xs.toArray[t / k]! = xs[t / k]'hq := by simp [getElem!_pos, hq]
  rw [h2, getElem!_pos _ _ (by rw [hk]; exact hm), List.getElem?_eq_getElem (by rw [hk]; exact hm)]
theorem calls_sortK {P : Program} {ρ : Ren} (L : SlLaysF0.n6 P ρ) (k : Nat) (hk0 : 0 < k) (aE : ∀ w, (isAgg (ρ.t 24)).run P w = .ok true w) (zE : ∀ w, (Go.sizeOf (ρ.t 24)).run P w = .ok k w) (enc : α → List Value) (hk : ∀ x, (enc x).length = k) (h1 : ∀ x, ∀ v ∈ enc x, v.oneCell' = true)
    (cf : α → α → Int) (hO : SWO (ltOf cf)) (hT : ∀ x y, (ltOf cf) x y = false → (ltOf cf) y x = false → x = y) (g : Nat) (eg : ∀ args w, (callFunc g args).run P w = .ok (.enter g args) w)
    (hcmp : ∀ (x y : α) (W : World), Calls P g #[.agg (enc x).toArray, .agg (enc y).toArray] W (fun e w' => e = .returned (.int .i64 (cf x y)) ∧ ∃ q os', w' = grow (W.drewN q) os'))
    (e c : Nat) (A : Option Addr) (xs : List α) (w : World) (hl : xs.length < 4611686018427387904) (ho : (ow e k enc A c xs).P w) :
    Calls P (ρ.f 6) #[.slice A xs.length c, .func (.func g) #[] #[]] w (fun en w' => en = .returned (.tuple #[]) ∧ Mut (ow e k enc A c xs) w w' ∧ (ow e k enc A c (xs.mergeSort fun x y => !(ltOf cf) y x)).P w') := by
  have ho' : w.ownsRow 0 e k (.slice A xs.length c) xs.length (xs.flatMap enc) := ho
  rcases ho'.2 with ⟨h2, h3⟩ | ⟨b, cap, cur, hv, _, hb, hn, hm, hs, ht⟩
  · have hx0 : xs = [] := List.eq_nil_of_length_eq_zero h3
    subst hx0
    have hS := AnyF.slices_SortFunc_none (P := P) (ρ := ρ) { L with } A c (.func (.func g) #[] #[]) w
    refine hS.mono fun en w' hh => ?_
    obtain ⟨he, hw⟩ := hh
    rw [hw]
    have e0 : (([] : List α).mergeSort fun x y => !(ltOf cf) y x) = [] := by simp
    rw [e0]
    exact ⟨he, ⟨rfl, rfl, rfl, Nat.le_refl _, fun _ _ _ => rfl⟩, ho⟩
  · injection hv with hA _ hc
    subst hA; subst hc
    have hblk : b < w.heap.size := (Array.getElem?_eq_some_iff.1 hb).1
    have hH : HoldsK enc k w b 0 xs.toArray := by
      intro j hj
      rw [size_flatK] at hj
      have hj' : j < xs.length * k := by simpa using hj
      refine ⟨?_, by simp [World.frozen?, hb]⟩
      have e1 : (cur.toList.take (xs.length * k))[j]? = (xs.flatMap enc)[j]? := by rw [ht]
      rw [List.getElem?_take, if_pos hj', Array.getElem?_toList, flat_at enc k hk hk0 xs j hj'] at e1
      simp only [World.cell?, hb, Nat.zero_add]
      simp only [Option.isSome_none, Bool.false_eq_true, if_false]
      exact e1
    have hS := AnyQ.slices_SortFunc_total L k aE zE enc hk h1 cf hO g #[] b 0 c xs.toArray w eg (fun _ _ _ _ x y => hcmp x y _) hH hblk (by simpa using hl) hT
    rw [show xs.toArray.size = xs.length by simp] at hS
    refine hS.mono fun en w' hh => ?_
    obtain ⟨he, q, os, hw⟩ := hh
    refine ⟨he, ?_⟩
    obtain ⟨ys, hys⟩ : ∃ ys, ys = xs.mergeSort fun x y => !(ltOf cf) y x := ⟨_, rfl⟩
    have hyl : ys.length = xs.length := by rw [hys]; exact List.length_mergeSort ..
    have hw2 : w' = grow (putRowK enc k (Sort.ahead w q) b 0 ys.toArray) os := by rw [hw, hys]; rfl
    have hsz : (putRowK enc k (Sort.ahead w q) b 0 ys.toArray).heap.size = w.heap.size := by simp [putRowK, putRow, mapBlock, Sort.ahead]
    rw [← hys, hw2]
    constructor
    · refine ⟨rfl, rfl, rfl, by rw [size_grow, hsz]; omega, fun j hj hne => ?_⟩
      rw [heap_grow_old _ _ (by rw [hsz]; exact hj)]
      have hbk : b ≠ j := fun h => hne (by rw [← h]; rfl)
      simp [putRowK, putRow, mapBlock, Sort.ahead, Array.getElem?_modify, hbk]
    · refine (ow e k enc (some ⟨b, 0, none⟩) c ys).stab (w := putRowK enc k (Sort.ahead w q) b 0 ys.toArray) (fun j hj => ?_) ?_
      · have hbk : b = j := by
          have : (Value.slice (some ⟨b, 0, none⟩) ys.length c).ownBlock = some j := hj
          injection this
        rw [heap_grow_old _ _ (by rw [hsz]; omega)]
      · show World.ownsRow _ 0 e k (.slice (some ⟨b, 0, none⟩) ys.length c) ys.length (ys.flatMap enc)
        refine ⟨by rw [flatMap_len enc k hk], .inr ⟨b, c, putCells id 0 (flatK enc k ys.toArray) cur, rfl, Nat.zero_le _, ?_, by omega, hm, by simpa [putCells] using hs, ?_⟩⟩
        · simp [putRowK, putRow, mapBlock, Sort.ahead, Array.getElem?_modify, hb, onCells]
        · apply List.ext_getElem?
          intro j
          by_cases hj : j < ys.length * k
          · rw [List.getElem?_take, if_pos hj, flat_at enc k hk hk0 ys j hj, Array.getElem?_toList]
            have hjc : j < cur.size := by
              have := Nat.mul_le_mul_right k (show ys.length ≤ c by omega)
              omega
            simp only [putCells, Array.getElem?_mapIdx, Array.getElem?_eq_getElem hjc, Option.map_some]
            rw [if_pos ⟨Nat.zero_le _, by rw [size_flatK]; simpa using hj⟩]
            simp
          · rw [List.getElem?_take, if_neg hj, List.getElem?_eq_none (by rw [flatMap_len enc k hk]; omega)]
end Go.Sx
namespace Go.Proofs.YtppfniekcgnmjaaGreat.Au
open Go.Sx Go.RowKit Am Go.Sort Go.Shelf
set_option maxRecDepth 20000
theorem wa0 (W : World) (a b : Obj) : (W.alloc a).alloc b = grow (W.drewN 0) (#[a] ++ #[b]) := by rw [alloc_eq_grow, alloc_eq_grow, grow_grow]; rfl
theorem wa1 (W : World) (a b : Obj) (q : Nat) (os : Array Obj) : grow (((W.alloc a).alloc b).drewN q) os = grow (W.drewN q) ((#[a] ++ #[b]) ++ os) := by
  rw [alloc_eq_grow, alloc_eq_grow, grow_grow]
  show grow (grow (W.drewN q) (#[a] ++ #[b])) os = _
  rw [grow_grow]
set_option maxHeartbeats 1000000 in
theorem k_beatsG (a b : BidV) (W : World) : Calls Tryz.prog 82 #[.agg (encBi a).toArray, .agg (encBi b).toArray] W (fun e w' => e = .returned (.bool (beats a b)) ∧ ∃ q os', w' = grow (W.drewN q) os') := by
  obtain ⟨a0, a1, a2⟩ := a
  obtain ⟨b0, b1, b2⟩ := b
  show Calls Tryz.prog 82 #[.agg #[.int .i64 a0, .int .i64 a1, .int .i64 a2], .agg #[.int .i64 b0, .int .i64 b1, .int .i64 b2]] W _
  go_enter Tryz.func82, Tryz.ntmps82
  go_wp2
  · go_ret
    rename_i h
    refine ⟨?_, 0, _, by rw [alloc_eq_grow, alloc_eq_grow, grow_grow]; rfl⟩
    have h2 : a2 ≠ b2 := by simpa using h
    unfold beats; rw [if_neg h2]; rfl
  · go_ret
    rename_i h
    refine ⟨?_, 0, _, by rw [alloc_eq_grow, alloc_eq_grow, grow_grow]; rfl⟩
    have h2 : a2 = b2 := by
      have : (a2 != b2) = false := by assumption
      simpa using this
    have h3 : a1 ≠ b1 := by simpa using h
    unfold beats; rw [if_pos h2, if_neg h3]; rfl
  · go_ret
    rename_i h1 h
    refine ⟨?_, 0, _, by rw [alloc_eq_grow, alloc_eq_grow, grow_grow]; rfl⟩
    have h2 : a2 = b2 := by simpa using h1
    have h3 : a1 = b1 := by simpa using h
    unfold beats; rw [if_pos h2, if_pos h3]; rfl
def cmpO (a b : BidV) : Int := if a = b then 0 else if beats a b then -1 else 1
theorem eq93' (a0 a1 a2 b0 b1 b2 : Int) (x y : Operand) (w : World) : (do eqGuard .eql 115 x y (.agg #[.int .i64 a0, .int .i64 a1, .int .i64 a2]) (.agg #[.int .i64 b0, .int .i64 b1, .int .i64 b2]); binOp .eql 115 (.agg #[.int .i64 a0, .int .i64 a1, .int .i64 a2]) (.agg #[.int .i64 b0, .int .i64 b1, .int .i64 b2]) : Sem Value).run Tryz.prog w = .ok (.bool ((a0 == b0) && (a1 == b1) && (a2 == b2))) w := by
  simp [go_sem, Tryz.eqGuardType115, Tryz.stoodInHeld115, Tryz.stoodInHeld67, Tryz.underlying115, Tryz.underlying67, Tryz.underlying3]
  try ((repeat' split) <;> simp_all)
theorem wl_eqO {ops : Array Oper} {rest : List Oper} {Q : Exit → Act → World → Prop} {a : Act} {w : World} {dst : Option Tmp} {ty ty' : TypeId} {pos : String} {aft : Array Edge} {x y : Operand} {a0 a1 a2 b0 b1 b2 : Int}
    (hx : a.eval x = .agg #[.int .i64 a0, .int .i64 a1, .int .i64 a2]) (hy : a.eval y = .agg #[.int .i64 b0, .int .i64 b1, .int .i64 b2])
    (k : wpList Tryz.prog ops Q rest (a.put dst (.bool ((a0 == b0) && (a1 == b1) && (a2 == b2)))) w) : wpList Tryz.prog ops Q (⟨dst, .binOp .eql 115 x y ty', ty, pos, aft, none⟩ :: rest) a w := by
  refine wpList_plain rfl fun K' hK' => ?_
  have h := eq93' a0 a1 a2 b0 b1 b2 x y w
  have hrun : (execOp a.eval ⟨dst, .binOp .eql 115 x y ty', ty, pos, aft, none⟩).run Tryz.prog w = .ok (.value (.bool ((a0 == b0) && (a1 == b1) && (a2 == b2)))) w := by
    simp only [execOp, hx, hy]
    rw [Sem.run_bind, h]; rfl
  unfold Oper.wp
  rw [hrun]
  exact hK' _ _ k
set_option maxHeartbeats 1000000 in
theorem k_cmpO1 (a0 a1 a2 b0 b1 b2 : Int) (r : Bool) (W : World) (hcon : ∀ W, Calls Tryz.prog 82 #[.agg #[.int .i64 a0, .int .i64 a1, .int .i64 a2], .agg #[.int .i64 b0, .int .i64 b1, .int .i64 b2]] W (fun e w' => e = .returned (.bool r) ∧ ∃ q os', w' = grow (W.drewN q) os')) :
    Calls Tryz.prog 84 #[.agg #[.int .i64 a0, .int .i64 a1, .int .i64 a2], .agg #[.int .i64 b0, .int .i64 b1, .int .i64 b2]] W (fun e w' => e = .returned (.int .i64 (if (a0 == b0 && a1 == b1 && a2 == b2) = true then 0 else if r = true then -1 else 1)) ∧ ∃ q os', w' = grow (W.drewN q) os') := by
  go_enter Tryz.func84, Tryz.ntmps84
  generalize hb : ((a0 == b0) && (a1 == b1) && (a2 == b2)) = eb
  go_wp2_with (first | (refine wl_eqO rfl rfl ?_; rw [hb]) | (go_at_call 82; refine (hcon _).mono ?_; rintro e w' ⟨rfl, q, os, rfl⟩))
  all_goals (go_ret; first | exact ⟨rfl, 0, _, wa0 _ _ _⟩ | exact ⟨rfl, _, _, wa1 _ _ _ _ _⟩)
theorem k_cmpO (a b : BidV) (W : World) : Calls Tryz.prog 84 #[.agg (encBi a).toArray, .agg (encBi b).toArray] W (fun e w' => e = .returned (.int .i64 (cmpO a b)) ∧ ∃ q os', w' = grow (W.drewN q) os') := by
  have hcon := fun W' => k_beatsG a b W'
  have hv : cmpO a b = if (a.who == b.who && a.way == b.way && a.most == b.most) = true then 0 else if beats a b = true then -1 else 1 := by
    unfold cmpO
    by_cases h : a = b
    · subst h; simp
    · have hne : ¬ (a.who == b.who && a.way == b.way && a.most == b.most) = true := by
        simp only [Bool.and_eq_true, beq_iff_eq]
        rintro ⟨⟨h1, h2⟩, h3⟩
        exact h (bid_ext h1 h2 h3)
      rw [if_neg h, if_neg hne]
  rw [hv]
  exact k_cmpO1 a.who a.way a.most b.who b.way b.most (beats a b) W hcon
theorem ltO (a b : BidV) : ltOf cmpO a b = beats a b := by
  unfold ltOf cmpO
  by_cases h : a = b
  · subst h
    rw [if_pos rfl]
    cases hb : beats a a with
    | false => rfl
    | true => rw [beats_iff] at hb; omega
  · rw [if_neg h]
    cases hb : beats a b <;> rfl
theorem swoO : SWO (ltOf cmpO) where
  irrefl x := by rw [ltO, beats_no]; omega
  trans x y z h1 h2 := by rw [ltO, beats_iff] at *; omega
  ntrans x y z h1 h2 := by rw [ltO, beats_no] at *; omega
theorem totO (x y : BidV) (h1 : ltOf cmpO x y = false) (h2 : ltOf cmpO y x = false) : x = y := by
  rw [ltO, beats_no] at *
  exact bid_ext (by omega) (by omega) (by omega)
end Go.Proofs.YtppfniekcgnmjaaGreat.Au
namespace Go.Proofs.YtppfniekcgnmjaaGreat.Au
open Go.Sx Go.RowKit Am

abbrev evB (b : BidV) : Value := .agg #[.int .i64 b.who, .int .i64 b.way, .int .i64 b.most]
def firstNo {α : Type} (p : α → Bool) : List α → Int → Int
  | [], _ => -1
  | x :: l, i => if p x = true then firstNo p l (i + 1) else i
theorem firstNo_drop {α : Type} (p : α → Bool) (l : List α) (k : Nat) (x : α) (h : l[k]? = some x) : firstNo p (l.drop k) k = if p x = true then firstNo p (l.drop (k + 1)) ((k + 1 : Nat) : Int) else (k : Int) := by
  obtain ⟨h1, h2⟩ := List.getElem?_eq_some_iff.1 h
  rw [List.drop_eq_getElem_cons h1, h2, firstNo]; rfl
theorem firstNo_ge {α : Type} (p : α → Bool) : ∀ (l : List α) (i : Int), 0 ≤ i → decide (0 ≤ firstNo p l i) = !(l.all p)
  | [], i, _ => by simp [firstNo]
  | x :: l, i, h => by
    rw [firstNo, List.all_cons]
    cases hp : p x with
    | true => rw [if_pos rfl, firstNo_ge p l (i + 1) (by omega), Bool.true_and]
    | false => rw [if_neg (by simp)]; simp [h]
theorem firstNo_all {α : Type} (p : α → Bool) (l : List α) : decide (0 ≤ firstNo p l 0) = !(l.all p) := firstNo_ge p l 0 (Int.le_refl _)
def bid1 (b : BidV) : Bool := btw 0 b.who 99 && btw 0 b.way 3 && btw 1 b.most 100000
def bidsB (bs : List BidV) : Bool := decide ((bs.length : Int) ≤ 32) && bs.all bid1
theorem bid1_V (b : BidV) : (((!(decide (0 ≤ b.who) && decide (b.who ≤ 99))) || !(decide (0 ≤ b.way) && decide (b.way ≤ 3))) || !(decide (1 ≤ b.most) && decide (b.most ≤ 100000))) = !(bid1 b) := by
  unfold bid1 btw
  rw [← Bool.not_and, ← Bool.not_and]
theorem bids_ok {bs : List BidV} (h : bidsB bs = true) : bs.length ≤ 32 ∧ ∀ b ∈ bs, (0 ≤ b.who ∧ b.who ≤ 99) ∧ (0 ≤ b.way ∧ b.way ≤ 3) ∧ (1 ≤ b.most ∧ b.most ≤ 100000) := by
  unfold bidsB at h
  rw [Bool.and_eq_true, decide_eq_true_eq] at h
  refine ⟨by omega, fun b hb => ?_⟩
  have := List.all_eq_true.1 h.2 b hb
  unfold bid1 at this
  simp only [Bool.and_eq_true, btw_t] at this
  exact ⟨this.1.1, this.1.2, this.2⟩
/-- sorted, the one that beats all others first -/
def srt (l : List BidV) : List BidV := l.mergeSort fun x y => !(ltOf cmpO) y x
theorem srt_perm (l : List BidV) : (srt l).Perm l := List.mergeSort_perm ..
theorem srt_pw (l : List BidV) : (srt l).Pairwise (fun a b => beats b a = false) := by
  have := List.pairwise_mergeSort (le := fun x y : BidV => !(ltOf cmpO) y x) (fun a b c h1 h2 => by simp only [ltO, Bool.not_eq_true', beats_no] at *; omega) (fun a b => by
    simp only [ltO, Bool.or_eq_true, Bool.not_eq_true', beats_no]; omega) l
  exact this.imp (fun h => by simpa [ltO] using h)
theorem srt_eq {l m : List BidV} (h : l.Perm m) : srt l = srt m :=
  List.Perm.eq_of_pairwise (fun a b _ _ h1 h2 => by rw [beats_no] at h1 h2; exact bid_ext (by omega) (by omega) (by omega)) (srt_pw l) (srt_pw m) ((srt_perm l).trans (h.trans (srt_perm m).symm))
def offL (rs : List Int) (bs : List BidV) : List BidV := srt ((ownF rs bs []).map (·.2))
theorem offL_len (rs : List Int) (bs : List BidV) : (offL rs bs).length ≤ bs.length := by
  have key : ∀ (l : List BidV) (m : List (Int × BidV)), (ownF rs l m).length ≤ m.length + l.length := by
    intro l
    induction l with
    | nil => intro m; exact Nat.le_refl _
    | cons b l ih =>
      intro m
      rw [ownF]
      have h1 := ih (if 0 < (offer1 rs b).most then ownS m (offer1 rs b) else m)
      have h2 : (if 0 < (offer1 rs b).most then ownS m (offer1 rs b) else m).length ≤ m.length + 1 := by
        have hp : ∀ (m : List (Int × BidV)) (k : Int) (v : BidV), (putL m k v).length ≤ m.length + 1 := by
          intro m k v
          have := congrArg List.length (putL_keys m k v)
          rw [List.length_map] at this
          rw [this]; split <;> simp
        split
        · unfold ownS
          by_cases hc : ownC m (offer1 rs b) = true
          · rw [if_pos hc]; exact hp _ _ _
          · rw [if_neg hc]; omega
        · omega
      rw [List.length_cons]; omega
  unfold offL
  rw [(srt_perm _).length_eq, List.length_map]
  have := key bs []
  simpa using this
theorem sell_off (rs : List Int) (st least : Int) (bs : List BidV) : sellP rs st least (offL rs bs) = knockF rs st least (offs rs bs) :=
  sell_eq (ownF_own rs bs) (srt_perm _) (srt_pw _) (fun _ h => offs_pos h)
/-- what the map's step asks -/
theorem own_V (own : List (Int × BidV)) (o : BidV) : (decide (0 < o.most) && ((!(getL own o.who).isSome) || beats o ((getL own o.who).getD default))) = true ↔ (0 < o.most ∧ ownC own o = true) := by
  rw [Bool.and_eq_true, decide_eq_true_eq]
  unfold ownC
  cases getL own o.who with
  | none => simp
  | some v => simp
theorem own_yes {own : List (Int × BidV)} {o : BidV} (h : (decide (0 < o.most) && ((!(getL own o.who).isSome) || beats o ((getL own o.who).getD default))) = true) : (if 0 < o.most then ownS own o else own) = putL own o.who o := by
  obtain ⟨h1, h2⟩ := (own_V own o).1 h
  rw [if_pos h1, ownS, if_pos h2]
theorem own_no {own : List (Int × BidV)} {o : BidV} (h : (decide (0 < o.most) && ((!(getL own o.who).isSome) || beats o ((getL own o.who).getD default))) = false) : (if 0 < o.most then ownS own o else own) = own := by
  by_cases h1 : 0 < o.most
  · rw [if_pos h1, ownS, if_neg]
    intro h2
    rw [(own_V own o).2 ⟨h1, h2⟩] at h; cases h
  · rw [if_neg h1]
theorem erase_perm : ∀ (left : List (Int × BidV)) (i : Nat) (p : Int × BidV), left[i]? = some p → ∀ outs : List BidV, ((outs ++ [p.2]) ++ (left.eraseIdx i).map (·.2)).Perm (outs ++ left.map (·.2)) := by
  intro left i p h outs
  have h1 : (p :: left.eraseIdx i).Perm left := by
    induction left generalizing i with
    | nil => simp at h
    | cons x l ih =>
      cases i with
      | zero => simp at h; subst h; exact .refl _
      | succ i =>
        simp at h
        exact (List.Perm.swap x p _).trans ((ih i h).cons x)
  rw [List.append_assoc]
  exact (h1.map (·.2)).append_left outs
theorem encBi_one (x : BidV) : ∀ v ∈ encBi x, v.oneCell' = true := fun v hv => by simp at hv; rcases hv with rfl | rfl | rfl <;> rfl
def SellV (st rv : Int) (lad : List RiseV) (bs : List BidV) : KnockV := if lotB st rv lad = true ∧ bidsB bs = true then knockF (rgL lad st) st (leastR st rv lad) (offs (rgL lad st) bs) else ⟨0, 0⟩
def SellE (st rv : Int) (lad : List RiseV) (bs : List BidV) : Int := if lotB st rv lad = true then (if bidsB bs = true then 0 else 61) else 60
theorem sell_no {st rv : Int} {lad : List RiseV} {bs : List BidV} (h : lotB st rv lad = false) : SellV st rv lad bs = ⟨0, 0⟩ ∧ SellE st rv lad bs = 60 := by unfold SellV SellE; rw [h]; simp
theorem sell_no2 {st rv : Int} {lad : List RiseV} {bs : List BidV} (h : lotB st rv lad = true) (h2 : bidsB bs = false) : SellV st rv lad bs = ⟨0, 0⟩ ∧ SellE st rv lad bs = 61 := by unfold SellV SellE; rw [h, h2]; simp
theorem sell_yes {st rv : Int} {lad : List RiseV} {bs : List BidV} (h : lotB st rv lad = true) (h2 : bidsB bs = true) : SellV st rv lad bs = sellP (rgL lad st) st (leastR st rv lad) (offL (rgL lad st) bs) ∧ SellE st rv lad bs = 0 := by unfold SellV SellE; rw [h, h2, sell_off]; simp
theorem sellP_no {rs : List Int} {st least : Int} {s : List BidV} (h : ((((s.length : Int) == 0) || (least == 0)) || decide ((s.getD (0 : Int).toNat default).most < least)) = true) : sellP rs st least s = ⟨-1, 0⟩ := by
  cases s with
  | nil => rfl
  | cons o t =>
    have h1 : (((o :: t).length : Int) == 0) = false := beq_eq_false_iff_ne.2 (by simp; omega)
    rw [h1] at h
    have h2 : least = 0 ∨ o.most < least := by simpa using h
    rw [sellP, if_pos h2]
theorem sellP_yes {rs : List Int} {st least : Int} {s : List BidV} (h : ((((s.length : Int) == 0) || (least == 0)) || decide ((s.getD (0 : Int).toNat default).most < least)) = false) : ∃ o t, s = o :: t ∧ sellP rs st least s = ⟨o.who, max least (priceF rs st o.most (secT t))⟩ := by
  cases s with
  | nil => simp at h
  | cons o t =>
    have h2 : ¬ (least = 0 ∨ o.most < least) := by
      simp only [Bool.or_eq_false_iff, beq_eq_false_iff_ne, decide_eq_false_iff_not] at h
      rintro (e | e)
      · exact h.1.2 e
      · exact h.2 e
    exact ⟨o, t, rfl, by rw [sellP, if_neg h2]⟩
end Go.Proofs.YtppfniekcgnmjaaGreat.Au
namespace Go.Proofs.YtppfniekcgnmjaaGreat.Au
open Go.Sx Go.RowKit
set_option maxRecDepth 20000
theorem el110 : ElemIs Tryz.prog 110 115 3 24 := ⟨⟨_, (.agg #[.int .i64 0, .int .i64 0, .int .i64 0]), Tryz.underlying110, Tryz.type115, by kernel_rfl, by kernel_rfl, by kernel_rfl, by kernel_rfl, by decide⟩⟩
theorem fa115_0 : FieldIs Tryz.prog 115 0 0 3 true := ⟨⟨_, _, Tryz.underlying115, rfl, rfl, Tryz.sizeOf67, Tryz.isAgg67, by decide⟩⟩
theorem fa67_0 : FieldIs Tryz.prog 67 0 0 1 false := ⟨⟨_, _, Tryz.underlying67, rfl, rfl, Tryz.sizeOf3, Tryz.isAgg3, by decide⟩⟩
theorem fa67_1 : FieldIs Tryz.prog 67 1 1 1 false := ⟨⟨_, _, Tryz.underlying67, rfl, rfl, Tryz.sizeOf3, Tryz.isAgg3, by decide⟩⟩
theorem fa67_2 : FieldIs Tryz.prog 67 2 2 1 false := ⟨⟨_, _, Tryz.underlying67, rfl, rfl, Tryz.sizeOf3, Tryz.isAgg3, by decide⟩⟩
theorem st115 : StructIs Tryz.prog 115 [(0, 3)] [.int .i64 0, .int .i64 0, .int .i64 0] := ⟨⟨_, Tryz.underlying115, fun w => by simp [Tryz.sizeOf67], Tryz.zeroValue115⟩⟩
end Go.Proofs.YtppfniekcgnmjaaGreat.Au
namespace Go.Proofs.YtppfniekcgnmjaaGreat.Au
open Go.Sx Go.RowKit Am
set_option maxRecDepth 20000
theorem k_clB (b : BidV) (w : World)  : Calls Tryz.prog 80 #[evB b] w (fun e w' => e = .returned (.bool (!(bid1 b))) ∧ Grow w w') := by
  refine enter_pure (args := [evB b]) [] Tryz.func80 rfl (by rw [Tryz.ntmps80]; simp) (by simp) ?_
  refine cj_seq (cj_region ?_)
  refine oj_box rfl rfl rfl (fun b1 => ?_)
  refine oj_step (y_assign rfl) rfl rfl rfl ?_
  refine oj_nil ?_
  refine ej_th (cj_seq ?_)
  refine cj_regionG ?_
  refine gj_step (y_fa0 fa67_0 rfl) rfl rfl rfl (gj_step (y_load1 Tryz.isAgg3 rfl rfl) rfl rfl rfl (?_))
  refine gj_step (y_call Tryz.call78 rfl (fun w hp => k_within _ _ _ w)) rfl rfl rfl ?_
  refine gj_step (y_not rfl) rfl rfl rfl (gj_step (y_move rfl) rfl rfl rfl (?_))
  refine gj_g 4 7 11 rfl rfl rfl rfl (fun hg7 => gj_yes rfl rfl rfl (y_fa fa67_1 rfl) rfl rfl (gj_yes rfl rfl rfl (y_load1 Tryz.isAgg3 rfl rfl) rfl rfl (gj_yes rfl rfl rfl (y_call Tryz.call78 rfl (fun w hp => k_within _ _ _ w)) rfl rfl (gj_yes rfl rfl rfl (y_not rfl) rfl rfl (gj_nil rfl))))) ?_
  refine gj_step (y_or rfl rfl rfl) rfl rfl rfl (gj_step (y_move rfl) rfl rfl rfl (?_))
  refine gj_g 4 13 17 rfl rfl rfl rfl (fun hg13 => gj_yes rfl rfl rfl (y_fa fa67_2 rfl) rfl rfl (gj_yes rfl rfl rfl (y_load1 Tryz.isAgg3 rfl rfl) rfl rfl (gj_yes rfl rfl rfl (y_call Tryz.call78 rfl (fun w hp => k_within _ _ _ w)) rfl rfl (gj_yes rfl rfl rfl (y_not rfl) rfl rfl (gj_nil rfl))))) ?_
  refine gj_step (y_or rfl rfl rfl) rfl rfl rfl (gj_step (y_assign rfl) rfl rfl rfl (?_))
  refine gj_nil ?_
  refine ej_th (cj_ret ?_)
  refine ej_ret1 rfl Tryz.results80 rfl (fun w' hp => ⟨?_, hp.below⟩)
  rw [← bid1_V b]

theorem k_IndexB (l : List BidV) (A : Option Addr) (c : Nat) (w : World) (hl : Rd w 3 encBi A l) : Calls Tryz.prog 102 #[.slice A l.length c, .func (.func 80) #[] #[]] w (fun e w' => e = .returned (.int .i64 (firstNo bid1 l 0)) ∧ Grow w w') := by
  have hlen := hl.len
  refine enter_pure (args := [.slice A l.length c, .func (.func 80) #[] #[]]) [sl (fun b => b < w.heap.size) 3 encBi A l] Tryz.func102 rfl (by rw [Tryz.ntmps102]; simp) (fun g hg => by simp at hg; subst hg; exact ⟨hl, fun _ h => h⟩) ?_
  refine cj_seq ?_
  refine cj_regionG (gj_step (y_assign rfl) rfl rfl rfl (gj_nil ?_))
  refine ej_th (cj_seq (cj_seq ?_))
  refine cj_regionG (gj_step (y_move rfl) rfl rfl rfl (gj_step (y_lenA Tryz.underlying63 rfl) rfl rfl rfl (gj_step (y_move rfl) rfl rfl rfl (gj_nil ?_))))
  refine ej_th (cj_block ?_)
  refine cj_lpic (X := Nat) [(0, _), (1, _), (7, _)] (fun k => k ≤ l.length ∧ firstNo bid1 (l.drop k) k = firstNo bid1 l 0) (fun k => [(8, .int .i64 k)]) (fun k => l.length - k) 0 (⟨Nat.zero_le _, rfl⟩) ⟨rfl, rfl, rfl, rfl, trivial⟩ ?_
  rintro k ⟨hk, hsk⟩
  dsimp only [List.cons_append, List.nil_append]
  refine cj_seq ?_
  refine cj_regionG (gj_step (y_lss rfl rfl) rfl rfl rfl (gj_nil ?_))
  refine ej_th (cj_seq ?_)
  refine cj_cond rfl (fun h9 => ?_) (fun h9 => ?_)
  · have h9b := h9
    try simp only [sxb] at h9
    obtain ⟨x, hx⟩ : ∃ x, l[k]? = some x := ⟨_, List.getElem?_eq_getElem (by omega)⟩
    rw [firstNo_drop bid1 l k x hx] at hsk
    refine cj_skip (ej_th (cj_seq (cj_block (cj_seq ?_))))
    refine cj_regionG (gj_step (y_move rfl) rfl rfl rfl (gj_step (y_assign rfl) rfl rfl rfl (gj_nil ?_)))
    refine ej_th (cj_seq ?_)
    refine cj_regionG ?_
    refine gj_step (y_move rfl) rfl rfl rfl (gj_step (y_move rfl) rfl rfl rfl (gj_step (y_move rfl) rfl rfl rfl (gj_step (y_ixR (reads_sl) Tryz.underlying63 Tryz.sizeOf67 rfl rfl (⟨by omega, by omega⟩)) rfl rfl rfl (gj_step (y_ldW (reads_sl) Tryz.isAgg67 Tryz.sizeOf67 rfl (hx) (fun _ => rfl)) rfl rfl rfl (?_)))))
    refine gj_step (y_callV Tryz.call80 rfl rfl (fun w hp => k_clB x w)) rfl rfl rfl ?_
    refine gj_nil ?_
    refine ej_th ?_
    refine cj_cond rfl (fun h16 => ?_) (fun h16 => ?_)
    · have h16b := h16
      try simp only [sxb] at h16
      refine cj_seq ?_
      refine cj_regionG (gj_step (y_move rfl) rfl rfl rfl (gj_step (y_assign rfl) rfl rfl rfl (gj_nil ?_)))
      refine ej_th (cj_ret (ej_blk_ret (ej_then_ret (ej_then_ret (ej_blk_ret (ej_then_ret ?_))))))
      refine ej_ret1 rfl Tryz.results102 rfl (fun w' hp => ⟨?_, hp.below⟩)
      rw [← hsk, if_neg (by rw [not_t h16b]; simp)]
    · have h16b := h16
      try simp only [sxb] at h16
      refine cj_skip (ej_blk (ej_th ?_))
      refine cj_regionG (gj_step (y_add rfl rfl (by omega)) rfl rfl rfl (gj_step (y_move rfl) rfl rfl rfl (gj_nil ?_)))
      exact ej_nx (k + 1) (by omega) ⟨by omega, by rw [← hsk, if_pos (not_f h16b)]⟩ ⟨rfl, rfl, rfl, rfl, trivial⟩
  · have h9b := h9
    try simp only [sxb] at h9
    refine cj_exit (ej_then_exit (ej_then_exit (ej_blk_hit (ej_th (cj_seq ?_)))))
    refine cj_regionG (gj_step (y_assign rfl) rfl rfl rfl (gj_nil ?_))
    refine ej_th (cj_ret ?_)
    refine ej_ret1 rfl Tryz.results102 rfl (fun w' hp => ⟨?_, hp.below⟩)
    rw [← hsk, List.drop_of_length_le (by omega)]; rfl

theorem k_ContB (l : List BidV) (A : Option Addr) (c : Nat) (w : World) (hl : Rd w 3 encBi A l) : Calls Tryz.prog 79 #[.slice A l.length c, .func (.func 80) #[] #[]] w (fun e w' => e = .returned (.bool (!(l.all bid1))) ∧ Grow w w') := by
  refine enter_pure (args := [.slice A l.length c, .func (.func 80) #[] #[]]) [sl (fun b => b < w.heap.size) 3 encBi A l] Tryz.func79 rfl (by rw [Tryz.ntmps79]; simp) (fun g hg => by simp at hg; subst hg; exact ⟨hl, fun _ h => h⟩) ?_
  refine cj_seq ?_
  refine cj_regionG (gj_step (y_assign rfl) rfl rfl rfl (gj_nil ?_))
  refine ej_th (cj_seq ?_)
  refine cj_regionG ?_
  refine gj_step (y_move rfl) rfl rfl rfl (gj_step (y_move rfl) rfl rfl rfl (?_))
  refine gj_step (y_call Tryz.call102 rfl (fun w hp => k_IndexB l A c w hp.rd)) rfl rfl rfl ?_
  refine gj_step (y_geq rfl rfl) rfl rfl rfl (gj_step (y_assign rfl) rfl rfl rfl (?_))
  refine gj_nil ?_
  refine ej_th (cj_ret ?_)
  refine ej_ret1 rfl Tryz.results79 rfl (fun w' hp => ⟨?_, hp.below⟩)
  rw [firstNo_all bid1 l]

theorem k_bids (bs : List BidV) (Ab : Option Addr) (cb : Nat) (w : World) (hbs : Rd w 3 encBi Ab bs) : Calls Tryz.prog 49 #[.slice Ab bs.length cb] w (fun e w' => e = .returned (.bool (bidsB bs)) ∧ Grow w w') := by
  refine enter_pure (args := [.slice Ab bs.length cb]) [sl (fun b => b < w.heap.size) 3 encBi Ab bs] Tryz.func49 rfl (by rw [Tryz.ntmps49]; simp) (fun g hg => by simp at hg; subst hg; exact ⟨hbs, fun _ h => h⟩) ?_
  refine cj_seq ?_
  refine cj_regionG (gj_step (y_assign rfl) rfl rfl rfl (gj_nil ?_))
  refine ej_th (cj_seq ?_)
  refine cj_regionG ?_
  refine gj_step (y_move rfl) rfl rfl rfl (gj_step (y_lenA Tryz.underlying63 rfl) rfl rfl rfl (gj_step (y_leq rfl rfl) rfl rfl rfl (gj_step (y_move rfl) rfl rfl rfl (?_))))
  refine gj_g 3 6 9 rfl rfl rfl rfl (fun hg6 => gj_yes rfl rfl rfl (y_move rfl) rfl rfl (gj_yes rfl rfl rfl (y_call Tryz.call79 rfl (fun w hp => k_ContB bs Ab cb w hp.rd)) rfl rfl (gj_yes rfl rfl rfl (y_not rfl) rfl rfl (gj_nil rfl)))) ?_
  refine gj_step (y_and rfl rfl rfl) rfl rfl rfl (gj_step (y_assign rfl) rfl rfl rfl (?_))
  refine gj_nil ?_
  refine ej_th (cj_ret ?_)
  refine ej_ret1 rfl Tryz.results49 rfl (fun w' hp => ⟨?_, hp.below⟩)
  rw [Bool.not_not]; rfl

theorem k_beats (a b : BidV) (w : World)  : Calls Tryz.prog 82 #[evB a, evB b] w (fun e w' => e = .returned (.bool (beats a b)) ∧ Grow w w') := by
  refine enter_pure (args := [evB a, evB b]) [] Tryz.func82 rfl (by rw [Tryz.ntmps82]; simp) (by simp) ?_
  refine cj_seq (cj_region ?_)
  refine oj_box rfl rfl rfl (fun b2 => ?_)
  refine oj_box rfl rfl rfl (fun b3 => ?_)
  refine oj_step (y_assign rfl) rfl rfl rfl ?_
  refine oj_nil ?_
  refine ej_th (cj_seq (cj_seq ?_))
  refine cj_regionG (gj_step (y_fa0 fa115_0 rfl) rfl rfl rfl (gj_step (y_fa fa67_2 rfl) rfl rfl rfl (gj_step (y_load1 Tryz.isAgg3 rfl rfl) rfl rfl rfl (gj_step (y_fa0 fa115_0 rfl) rfl rfl rfl (gj_step (y_fa fa67_2 rfl) rfl rfl rfl (gj_step (y_load1 Tryz.isAgg3 rfl rfl) rfl rfl rfl (gj_step (y_neq rfl rfl) rfl rfl rfl (gj_nil ?_))))))))
  refine ej_th ?_
  refine cj_cond rfl (fun h11 => ?_) (fun h11 => ?_)
  · have h11b := h11
    try simp only [sxb] at h11
    refine cj_seq ?_
    refine cj_regionG (gj_step (y_fa0 fa115_0 rfl) rfl rfl rfl (gj_step (y_fa fa67_2 rfl) rfl rfl rfl (gj_step (y_load1 Tryz.isAgg3 rfl rfl) rfl rfl rfl (gj_step (y_fa0 fa115_0 rfl) rfl rfl rfl (gj_step (y_fa fa67_2 rfl) rfl rfl rfl (gj_step (y_load1 Tryz.isAgg3 rfl rfl) rfl rfl rfl (gj_step (y_gtr rfl rfl) rfl rfl rfl (gj_step (y_assign rfl) rfl rfl rfl (gj_nil ?_)))))))))
    refine ej_th (cj_ret (ej_then_ret ?_))
    refine ej_ret1 rfl Tryz.results82 rfl (fun w' hp => ⟨?_, hp.below⟩)
    unfold beats; rw [if_neg (by simpa using h11b)]
  · have h11b := h11
    try simp only [sxb] at h11
    refine cj_skip (ej_th (cj_seq (cj_seq ?_)))
    refine cj_regionG (gj_step (y_fa0 fa115_0 rfl) rfl rfl rfl (gj_step (y_fa fa67_1 rfl) rfl rfl rfl (gj_step (y_load1 Tryz.isAgg3 rfl rfl) rfl rfl rfl (gj_step (y_fa0 fa115_0 rfl) rfl rfl rfl (gj_step (y_fa fa67_1 rfl) rfl rfl rfl (gj_step (y_load1 Tryz.isAgg3 rfl rfl) rfl rfl rfl (gj_step (y_neq rfl rfl) rfl rfl rfl (gj_nil ?_))))))))
    refine ej_th ?_
    refine cj_cond rfl (fun h25 => ?_) (fun h25 => ?_)
    · have h25b := h25
      try simp only [sxb] at h25
      refine cj_seq ?_
      refine cj_regionG (gj_step (y_fa0 fa115_0 rfl) rfl rfl rfl (gj_step (y_fa fa67_1 rfl) rfl rfl rfl (gj_step (y_load1 Tryz.isAgg3 rfl rfl) rfl rfl rfl (gj_step (y_fa0 fa115_0 rfl) rfl rfl rfl (gj_step (y_fa fa67_1 rfl) rfl rfl rfl (gj_step (y_load1 Tryz.isAgg3 rfl rfl) rfl rfl rfl (gj_step (y_lss rfl rfl) rfl rfl rfl (gj_step (y_assign rfl) rfl rfl rfl (gj_nil ?_)))))))))
      refine ej_th (cj_ret (ej_then_ret ?_))
      refine ej_ret1 rfl Tryz.results82 rfl (fun w' hp => ⟨?_, hp.below⟩)
      unfold beats; rw [if_pos (by simpa using h11b), if_neg (by simpa using h25b)]
    · have h25b := h25
      try simp only [sxb] at h25
      refine cj_skip (ej_th (cj_seq ?_))
      refine cj_regionG (gj_step (y_fa0 fa115_0 rfl) rfl rfl rfl (gj_step (y_fa0 fa67_0 rfl) rfl rfl rfl (gj_step (y_load1 Tryz.isAgg3 rfl rfl) rfl rfl rfl (gj_step (y_fa0 fa115_0 rfl) rfl rfl rfl (gj_step (y_fa0 fa67_0 rfl) rfl rfl rfl (gj_step (y_load1 Tryz.isAgg3 rfl rfl) rfl rfl rfl (gj_step (y_lss rfl rfl) rfl rfl rfl (gj_step (y_assign rfl) rfl rfl rfl (gj_nil ?_)))))))))
      refine ej_th (cj_ret ?_)
      refine ej_ret1 rfl Tryz.results82 rfl (fun w' hp => ⟨?_, hp.below⟩)
      unfold beats; rw [if_pos (by simpa using h11b), if_pos (by simpa using h25b)]

theorem k_largest (a b : Int) (w : World)  : Calls Tryz.prog 52 #[.int .i64 a, .int .i64 b] w (fun e w' => e = .returned (.int .i64 (max a b)) ∧ Grow w w') := by
  refine enter_pure (args := [.int .i64 a, .int .i64 b]) [] Tryz.func52 rfl (by rw [Tryz.ntmps52]; simp) (by simp) ?_
  refine cj_seq ?_
  refine cj_regionG (gj_step (y_assign rfl) rfl rfl rfl (gj_nil ?_))
  refine ej_th (cj_seq (cj_seq ?_))
  refine cj_regionG (gj_step (y_move rfl) rfl rfl rfl (gj_step (y_move rfl) rfl rfl rfl (gj_step (y_gtr rfl rfl) rfl rfl rfl (gj_nil ?_))))
  refine ej_th ?_
  refine cj_cond rfl (fun h7 => ?_) (fun h7 => ?_)
  · have h7b := h7
    try simp only [sxb] at h7
    refine cj_seq ?_
    refine cj_regionG (gj_step (y_move rfl) rfl rfl rfl (gj_step (y_assign rfl) rfl rfl rfl (gj_nil ?_)))
    refine ej_th (cj_ret (ej_then_ret ?_))
    refine ej_ret1 rfl Tryz.results52 rfl (fun w' hp => ⟨?_, hp.below⟩)
    rw [show max a b = b by omega]
  · have h7b := h7
    try simp only [sxb] at h7
    refine cj_skip (ej_th (cj_seq ?_))
    refine cj_regionG (gj_step (y_move rfl) rfl rfl rfl (gj_step (y_assign rfl) rfl rfl rfl (gj_nil ?_)))
    refine ej_th (cj_ret ?_)
    refine ej_ret1 rfl Tryz.results52 rfl (fun w' hp => ⟨?_, hp.below⟩)
    rw [show max a b = a by omega]

theorem k_price (st rv : Int) (lad : List RiseV) (Al : Option Addr) (cl : Nat) (limit second : Int) (w : World) (hlad : Rd w 2 encRi Al lad) (hok : LotOk st rv lad) : Calls Tryz.prog 53 #[.agg #[.int .i64 st, .int .i64 rv, .slice Al lad.length cl], .int .i64 limit, .int .i64 second] w (fun e w' => e = .returned (.int .i64 (priceF (rgL lad st) st limit second)) ∧ Grow w w') := by
  refine enter_pure (args := [.agg #[.int .i64 st, .int .i64 rv, .slice Al lad.length cl], .int .i64 limit, .int .i64 second]) [sl (fun b => b < w.heap.size) 2 encRi Al lad] Tryz.func53 rfl (by rw [Tryz.ntmps53]; simp) (fun g hg => by simp at hg; subst hg; exact ⟨hlad, fun _ h => h⟩) ?_
  refine cj_seq (cj_region ?_)
  refine oj_box rfl rfl rfl (fun b3 => ?_)
  refine oj_step (y_assign rfl) rfl rfl rfl ?_
  refine oj_nil ?_
  refine ej_th (cj_seq (cj_seq ?_))
  refine cj_regionG (gj_step (y_move rfl) rfl rfl rfl (gj_nil ?_))
  refine ej_th (cj_block (cj_seq ?_))
  refine cj_regionG (gj_step (y_move rfl) rfl rfl rfl (gj_step (y_eql rfl rfl) rfl rfl rfl (gj_step (y_assign rfl) rfl rfl rfl (gj_nil ?_))))
  refine ej_th ?_
  refine cj_cond rfl (fun h8 => ?_) (fun h8 => ?_)
  · have h8b := h8
    try simp only [sxb] at h8
    refine cj_seq ?_
    refine cj_regionG (gj_step (y_move rfl) rfl rfl rfl (gj_step (y_assign rfl) rfl rfl rfl (gj_nil ?_)))
    refine ej_th (cj_ret (ej_blk_ret (ej_then_ret ?_)))
    refine ej_ret1 rfl Tryz.results53 rfl (fun w' hp => ⟨?_, hp.below⟩)
    rw [priceF, if_pos (by simpa using h8b)]
  · have h8b := h8
    try simp only [sxb] at h8
    refine cj_seq ?_
    refine cj_regionG (gj_step (y_eql rfl rfl) rfl rfl rfl (gj_step (y_assign rfl) rfl rfl rfl (gj_nil ?_)))
    refine ej_th ?_
    refine cj_cond rfl (fun h12 => ?_) (fun h12 => ?_)
    · have h12b := h12
      try simp only [sxb] at h12
      refine cj_seq ?_
      refine cj_regionG (gj_step (y_fa0 fa112_0 rfl) rfl rfl rfl (gj_step (y_fa0 fa62_0 rfl) rfl rfl rfl (gj_step (y_load1 Tryz.isAgg3 rfl rfl) rfl rfl rfl (gj_step (y_assign rfl) rfl rfl rfl (gj_nil ?_)))))
      refine ej_th (cj_ret (ej_blk_ret (ej_then_ret ?_)))
      refine ej_ret1 rfl Tryz.results53 rfl (fun w' hp => ⟨?_, hp.below⟩)
      rw [priceF, if_neg (by simpa using h8b), if_pos (by simpa using h12b)]
    · have h12b := h12
      try simp only [sxb] at h12
      refine cj_skip (ej_blk (ej_th (cj_seq ?_)))
      refine cj_regionG ?_
      refine gj_step (y_loadN Tryz.isAgg112 Tryz.sizeOf112 rfl) rfl rfl rfl (gj_step (y_move rfl) rfl rfl rfl (?_))
      refine gj_step (y_call Tryz.call51 rfl (fun w hp => k_behind st rv lad Al cl second w hp.rd hok)) rfl rfl rfl ?_
      refine gj_step (y_assign rfl) rfl rfl rfl (?_)
      refine gj_nil ?_
      refine ej_th (cj_ret ?_)
      refine ej_ret1 rfl Tryz.results53 rfl (fun w' hp => ⟨?_, hp.below⟩)
      rw [priceF, if_neg (by simpa using h8b), if_neg (by simpa using h12b)]

theorem k_offer (st rv : Int) (lad : List RiseV) (Al : Option Addr) (cl : Nat) (b : BidV) (w : World) (hlad : Rd w 2 encRi Al lad) (hok : LotOk st rv lad) : Calls Tryz.prog 81 #[.agg #[.int .i64 st, .int .i64 rv, .slice Al lad.length cl], evB b] w (fun e w' => e = .returned (.tuple #[evB (offer1 (rgL lad st) b), .bool (decide (0 < (offer1 (rgL lad st) b).most))]) ∧ Grow w w') := by
  refine enter_pure (args := [.agg #[.int .i64 st, .int .i64 rv, .slice Al lad.length cl], evB b]) [sl (fun b => b < w.heap.size) 2 encRi Al lad] Tryz.func81 rfl (by rw [Tryz.ntmps81]; simp) (fun g hg => by simp at hg; subst hg; exact ⟨hlad, fun _ h => h⟩) ?_
  refine cj_seq (cj_region ?_)
  refine oj_box rfl rfl rfl (fun b2 => ?_)
  refine oj_box rfl rfl rfl (fun b3 => ?_)
  refine oj_alloc Tryz.zeroValue115 rfl rfl (fun b4 => ?_)
  refine oj_step (y_assign rfl) rfl rfl rfl ?_
  refine oj_nil ?_
  refine ej_th (cj_seq (cj_region ?_))
  refine oj_step (y_loadN Tryz.isAgg112 Tryz.sizeOf112 rfl) rfl rfl rfl ?_
  refine oj_step (y_fa fa67_2 rfl) rfl rfl rfl ?_
  refine oj_step (y_load1 Tryz.isAgg3 rfl rfl) rfl rfl rfl ?_
  refine oj_step (y_call Tryz.call103 rfl (fun w hp => k_rung st rv lad Al cl b.most w hp.rd hok)) rfl rfl rfl ?_
  refine oj_step (y_fa fa67_2 rfl) rfl rfl rfl ?_
  refine oj_store rfl rfl rfl rfl Tryz.sizeOf3 rfl ?_
  refine oj_nil ?_
  refine ej_th (cj_seq ?_)
  refine cj_plan 7 (by kernel_rfl) (by kernel_rfl) ?_
  refine pl_y 0 rfl (y_loadN Tryz.isAgg67 Tryz.sizeOf67 rfl) rfl rfl rfl rfl (by kernel_rfl) ?_
  refine pl_y 1 rfl (y_build (cs := [.int .i64 b.who, .int .i64 b.way, .int .i64 (rungR st lad b.most)]) st115 rfl (by kernel_rfl)) rfl rfl rfl rfl (by kernel_rfl) ?_
  refine pl_y 2 rfl (y_fa fa67_2 rfl) rfl rfl rfl rfl (by kernel_rfl) ?_
  refine pl_y 3 rfl (y_load1 Tryz.isAgg3 rfl rfl) rfl rfl rfl rfl (by kernel_rfl) ?_
  refine pl_y 4 rfl (y_gtr rfl rfl) rfl rfl rfl rfl (by kernel_rfl) ?_
  refine pl_w1 5 (by kernel_rfl) rfl rfl (pl_fire rfl rfl rfl (by kernel_rfl) ?_)
  refine oj_store rfl rfl rfl rfl Tryz.sizeOf115 rfl ?_
  refine oj_nil ?_
  refine ej_pl (lt_y (y_gtr rfl rfl) rfl (lt_y (y_load1 Tryz.isAgg3 rfl rfl) rfl (lt_y (y_fa fa67_2 rfl) rfl (lt_w (by kernel_rfl) (lt_w (by kernel_rfl) (lt_nil)))))) ?_
  refine pl_y 6 rfl (y_assign rfl) rfl rfl rfl rfl (by kernel_rfl) ?_
  refine pl_end (by kernel_rfl) ?_
  refine ej_th (cj_ret ?_)
  exact ej_retC2 rfl Tryz.results81 rfl (y_loadN Tryz.isAgg115 Tryz.sizeOf115 rfl) rfl (fun w' hp => ⟨rfl, hp.below⟩)

def sortO_laid_ren : Go.Shelf.Ren := ⟨fun | 6 => 83 | 15 => 105 | 14 => 104 | 28 => 131 | 29 => 132 | 20 => 123 | 21 => 124 | 22 => 125 | 23 => 126 | 24 => 127 | 25 => 128 | 26 => 129 | 27 => 130 | 46 => 150 | 47 => 151 | 48 => 152 | 49 => 153 | 50 => 154 | 57 => 171 | n => n, fun | 22 => 110 | 24 => 115 | 25 => 160 | 3 => 3 | 39 => 205 | 0 => 0 | 53 => 241 | 55 => 243 | 4 => 4 | 46 => 235 | 45 => 234 | 50 => 136 | 5 => 5 | 9 => 9 | 66 => 262 | 70 => 266 | 76 => 277 | 77 => 102 | n => n, fun n => n⟩
theorem sortO_laid : Go.Proofs.SlLaysF0.n6 Tryz.prog sortO_laid_ren where
  mixed := by kernel_rfl
  f6 := ⟨Tryz.f83.name, by kernel_rfl, Tryz.func83.trans (congrArg some (by kernel_rfl))⟩
  f14 := ⟨Tryz.f104.name, by kernel_rfl, Tryz.func104.trans (congrArg some (by kernel_rfl))⟩
  f15 := Tryz.func105.trans (congrArg some (by kernel_rfl))
  f20 := ⟨Tryz.f123.name, by kernel_rfl, Tryz.func123.trans (congrArg some (by kernel_rfl))⟩
  f21 := ⟨Tryz.f124.name, by kernel_rfl, Tryz.func124.trans (congrArg some (by kernel_rfl))⟩
  f22 := ⟨Tryz.f125.name, by kernel_rfl, Tryz.func125.trans (congrArg some (by kernel_rfl))⟩
  f23 := ⟨Tryz.f126.name, by kernel_rfl, Tryz.func126.trans (congrArg some (by kernel_rfl))⟩
  f24 := ⟨Tryz.f127.name, by kernel_rfl, Tryz.func127.trans (congrArg some (by kernel_rfl))⟩
  f25 := ⟨Tryz.f128.name, by kernel_rfl, Tryz.func128.trans (congrArg some (by kernel_rfl))⟩
  f26 := ⟨Tryz.f129.name, by kernel_rfl, Tryz.func129.trans (congrArg some (by kernel_rfl))⟩
  f27 := ⟨Tryz.f130.name, by kernel_rfl, Tryz.func130.trans (congrArg some (by kernel_rfl))⟩
  f28 := Tryz.func131.trans (congrArg some (by kernel_rfl))
  f29 := Tryz.func132.trans (congrArg some (by kernel_rfl))
  f46 := ⟨Tryz.f150.name, by kernel_rfl, Tryz.func150.trans (congrArg some (by kernel_rfl))⟩
  f47 := Tryz.func151.trans (congrArg some (by kernel_rfl))
  f48 := Tryz.func152.trans (congrArg some (by kernel_rfl))
  f49 := ⟨Tryz.f153.name, by kernel_rfl, Tryz.func153.trans (congrArg some (by kernel_rfl))⟩
  f50 := ⟨Tryz.f154.name, by kernel_rfl, Tryz.func154.trans (congrArg some (by kernel_rfl))⟩
  f57 := ⟨Tryz.f171.name, by kernel_rfl, Tryz.func171.trans (congrArg some (by kernel_rfl))⟩
  t0 := Tryz.underlying0
  a0 := Tryz.isAgg0
  z0 := Tryz.sizeOf0
  v0 := Tryz.zeroValue0
  t3 := Tryz.underlying3
  a3 := Tryz.isAgg3
  z3 := Tryz.sizeOf3
  v3 := Tryz.zeroValue3
  t4 := Tryz.underlying4
  a4 := Tryz.isAgg4
  z4 := Tryz.sizeOf4
  v4 := Tryz.zeroValue4
  t5 := Tryz.underlying5
  a5 := Tryz.isAgg5
  z5 := Tryz.sizeOf5
  v5 := Tryz.zeroValue5
  t9 := Tryz.underlying9
  a9 := Tryz.isAgg9
  z9 := Tryz.sizeOf9
  v9 := Tryz.zeroValue9
  t22 := Tryz.underlying110
  a22 := Tryz.isAgg110
  z22 := Tryz.sizeOf110
  v22 := Tryz.zeroValue110
  t25 := Tryz.underlying160
  a25 := Tryz.isAgg160
  z25 := Tryz.sizeOf160
  v25 := Tryz.zeroValue160
  t39 := Tryz.underlying205
  a39 := Tryz.isAgg205
  z39 := Tryz.sizeOf205
  v39 := Tryz.zeroValue205
  t45 := Tryz.underlying234
  a45 := Tryz.isAgg234
  z45 := Tryz.sizeOf234
  v45 := Tryz.zeroValue234
  t46 := Tryz.underlying235
  a46 := Tryz.isAgg235
  z46 := Tryz.sizeOf235
  v46 := Tryz.zeroValue235
  t50 := Tryz.underlying136
  a50 := Tryz.isAgg136
  z50 := Tryz.sizeOf136
  v50 := Tryz.zeroValue136
  t53 := Tryz.underlying241
  a53 := Tryz.isAgg241
  z53 := Tryz.sizeOf241
  v53 := Tryz.zeroValue241
  t55 := Tryz.underlying243
  a55 := Tryz.isAgg243
  z55 := Tryz.sizeOf243
  v55 := Tryz.zeroValue243
  t66 := Tryz.underlying262
  a66 := Tryz.isAgg262
  z66 := Tryz.sizeOf262
  v66 := Tryz.zeroValue262
  t70 := Tryz.underlying266
  a70 := Tryz.isAgg266
  z70 := Tryz.sizeOf266
  v70 := Tryz.zeroValue266
  t76 := Tryz.underlying277
  a76 := Tryz.isAgg277
  z76 := Tryz.sizeOf277
  v76 := Tryz.zeroValue277
  t77 := Tryz.underlying102
  a77 := Tryz.isAgg102
  z77 := Tryz.sizeOf102
  v77 := Tryz.zeroValue102
theorem k_sortO (A : Option Addr) (c : Nat) (xs : List BidV) (w : World) (hl : xs.length < 4611686018427387904) (ho : (ow 115 3 encBi A c xs).P w) :
    Calls Tryz.prog 83 #[.slice A xs.length c, .func (.func 84) #[] #[]] w (fun en w' => en = .returned (.tuple #[]) ∧ Mut (ow 115 3 encBi A c xs) w w' ∧ (ow 115 3 encBi A c (srt xs)).P w') :=
  calls_sortK sortO_laid 3 (by omega) Tryz.isAgg115 Tryz.sizeOf115 encBi (fun _ => rfl) (fun x v hv => by simp at hv; rcases hv with rfl | rfl | rfl <;> rfl) cmpO swoO totO 84 (enters_of Tryz.func84 (by kernel_rfl) rfl) k_cmpO 115 c A xs w hl ho

theorem k_offers (st rv : Int) (lad : List RiseV) (Al : Option Addr) (cl : Nat) (bs : List BidV) (Ab : Option Addr) (cb : Nat) (w : World) (hlad : Rd w 2 encRi Al lad) (hbs : Rd w 3 encBi Ab bs) (hok : LotOk st rv lad) (hb32 : bs.length ≤ 32) : Calls Tryz.prog 50 #[.agg #[.int .i64 st, .int .i64 rv, .slice Al lad.length cl], .slice Ab bs.length cb] w (fun e w' => ∃ A c, e = .returned (.slice A (offL (rgL lad st) bs).length c) ∧ Grow w w' ∧ Res w w' 3 encBi A (offL (rgL lad st) bs)) := by
  have hlen := hbs.len
  have hol := offL_len (rgL lad st) bs
  refine enter_pure (args := [.agg #[.int .i64 st, .int .i64 rv, .slice Al lad.length cl], .slice Ab bs.length cb]) [sl (fun b => b < w.heap.size) 2 encRi Al lad, sl (fun b => b < w.heap.size) 3 encBi Ab bs] Tryz.func50 rfl (by rw [Tryz.ntmps50]; simp) (fun g hg => by simp at hg; rcases hg with rfl | rfl; exact ⟨hlad, fun _ h => h⟩; exact ⟨hbs, fun _ h => h⟩) ?_
  refine cj_seq (cj_region ?_)
  refine oj_box rfl rfl rfl (fun b2 => ?_)
  refine oj_step (y_assign rfl) rfl rfl rfl ?_
  refine oj_nil ?_
  refine ej_th (cj_seq (cj_region ?_))
  refine oj_makeMapZ ekI evB rfl (fun m15 => ?_)
  refine oj_step (y_assign rfl) rfl rfl rfl ?_
  refine oj_nil ?_
  refine ej_th (cj_seq (cj_seq ?_))
  refine cj_regionG (gj_step (y_move rfl) rfl rfl rfl (gj_step (y_lenA Tryz.underlying63 rfl) rfl rfl rfl (gj_step (y_move rfl) rfl rfl rfl (gj_nil ?_))))
  refine ej_th (cj_block ?_)
  refine cj_lpi (X := Nat × List (Int × BidV)) [(2, _), (4, _), (5, _), (16, _), (17, _)] (fun ⟨k, own⟩ => k ≤ bs.length ∧ ownF (rgL lad st) (bs.drop k) own = ownF (rgL lad st) bs []) (fun ⟨k, own⟩ => [(18, .int .i64 k)]) (fun ⟨k, own⟩ => [mz ekI evB m15 own, ownB b2 (cellsB 112 [.int .i64 st, .int .i64 rv, .slice Al lad.length cl])]) (fun ⟨k, own⟩ => [sl (fun b => b < w.heap.size) 2 encRi Al lad, sl (fun b => b < w.heap.size) 3 encBi Ab bs]) (fun ⟨k, own⟩ => bs.length - k) (0, []) (⟨Nat.zero_le _, rfl⟩) ⟨rfl, rfl, rfl, rfl, rfl, rfl, trivial⟩ ?_
  rintro ⟨k, own⟩ ⟨hk, hsk⟩
  dsimp only [List.cons_append, List.nil_append]
  refine cj_seq ?_
  refine cj_regionG (gj_step (y_lss rfl rfl) rfl rfl rfl (gj_nil ?_))
  refine ej_th (cj_seq ?_)
  refine cj_cond rfl (fun h19 => ?_) (fun h19 => ?_)
  · have h19b := h19
    try simp only [sxb] at h19
    obtain ⟨b, hx⟩ : ∃ b, bs[k]? = some b := ⟨_, List.getElem?_eq_getElem (by omega)⟩
    rw [ownF_drop (rgL lad st) bs k b own hx] at hsk
    refine cj_skip (ej_th (cj_seq (cj_block (cj_seq (cj_region ?_)))))
    refine oj_step (y_ixR (reads_sl) Tryz.underlying63 Tryz.sizeOf67 rfl rfl (⟨by omega, by omega⟩)) rfl rfl rfl ?_
    refine oj_step (y_ldW (reads_sl) Tryz.isAgg67 Tryz.sizeOf67 rfl (hx) (fun _ => rfl)) rfl rfl rfl ?_
    refine oj_alloc Tryz.zeroValue67 rfl rfl (fun b7 => ?_)
    refine oj_store rfl rfl rfl rfl Tryz.sizeOf67 rfl ?_
    refine oj_nil ?_
    refine ej_th (cj_seq (cj_region ?_))
    refine oj_step (y_loadN Tryz.isAgg112 Tryz.sizeOf112 rfl) rfl rfl rfl ?_
    refine oj_step (y_loadN Tryz.isAgg67 Tryz.sizeOf67 rfl) rfl rfl rfl ?_
    refine oj_step (y_call Tryz.call81 rfl (fun w hp => k_offer st rv lad Al cl b w hp.rd hok)) rfl rfl rfl ?_
    refine oj_step (y_move rfl) rfl rfl rfl ?_
    refine oj_step (y_extract rfl rfl) rfl rfl rfl ?_
    refine oj_step (y_extract rfl rfl) rfl rfl rfl ?_
    refine oj_alloc Tryz.zeroValue115 rfl rfl (fun b8 => ?_)
    refine oj_store rfl rfl rfl rfl Tryz.sizeOf115 rfl ?_
    refine oj_step (y_assign rfl) rfl rfl rfl ?_
    refine oj_nil ?_
    refine ej_th (cj_seq (cj_region ?_))
    refine oj_step (y_move rfl) rfl rfl rfl ?_
    refine oj_step (y_fa0 fa67_0 rfl) rfl rfl rfl ?_
    refine oj_step (y_load1 Tryz.isAgg3 rfl rfl) rfl rfl rfl ?_
    refine oj_step (y_lookupZ (ek := ekI) (ev := evB) (kk := b.who) default Tryz.underlying155 Tryz.underlying3 Tryz.zeroValue115 rfl rfl) rfl rfl rfl ?_
    refine oj_step (y_move rfl) rfl rfl rfl ?_
    refine oj_step (y_extract rfl rfl) rfl rfl rfl ?_
    refine oj_step (y_extract rfl rfl) rfl rfl rfl ?_
    refine oj_alloc Tryz.zeroValue115 rfl rfl (fun b10 => ?_)
    refine oj_store rfl rfl rfl rfl Tryz.sizeOf115 rfl ?_
    refine oj_step (y_assign rfl) rfl rfl rfl ?_
    refine oj_nil ?_
    refine ej_th (cj_seq ?_)
    refine cj_regionG ?_
    refine gj_step (y_move rfl) rfl rfl rfl (gj_step (y_move rfl) rfl rfl rfl (?_))
    refine gj_g 7 36 43 rfl rfl rfl rfl (fun hg36 => gj_yes rfl rfl rfl (y_move rfl) rfl rfl (gj_yes rfl rfl rfl (y_not rfl) rfl rfl (gj_yes rfl rfl rfl (y_move rfl) rfl rfl (gj_g 3 39 42 rfl rfl rfl rfl (fun hg39 => gj_yes rfl rfl rfl (y_loadN Tryz.isAgg115 Tryz.sizeOf115 rfl) rfl rfl (gj_yes rfl rfl rfl (y_loadN Tryz.isAgg115 Tryz.sizeOf115 rfl) rfl rfl (gj_yes rfl rfl rfl (y_call Tryz.call82 rfl (fun w hp => k_beats _ _ w)) rfl rfl (gj_nil rfl)))) (gj_yes rfl rfl rfl (y_or rfl rfl rfl) rfl rfl (gj_nil rfl)))))) ?_
    refine gj_step (y_and rfl rfl rfl) rfl rfl rfl (?_)
    refine gj_nil ?_
    refine ej_th ?_
    refine cj_cond rfl (fun h44 => ?_) (fun h44 => ?_)
    · have h44b := h44
      try simp only [sxb] at h44
      rw [own_yes h44b] at hsk
      refine cj_region ?_
      refine oj_step (y_move rfl) rfl rfl rfl ?_
      refine oj_step (y_fa0 fa67_0 rfl) rfl rfl rfl ?_
      refine oj_step (y_load1 Tryz.isAgg3 rfl rfl) rfl rfl rfl ?_
      refine oj_step (y_loadN Tryz.isAgg115 Tryz.sizeOf115 rfl) rfl rfl rfl ?_
      refine oj_mapUpdateZ (ek := ekI) (ev := evB) (kk := b.who) (v := offer1 (rgL lad st) b) Tryz.underlying155 Tryz.underlying3 rfl rfl rfl ?_
      refine oj_nil ?_
      refine ej_blk (ej_th ?_)
      refine cj_regionG (gj_step (y_add rfl rfl (by omega)) rfl rfl rfl (gj_step (y_move rfl) rfl rfl rfl (gj_nil ?_)))
      exact ej_nx (k + 1, putL own b.who (offer1 (rgL lad st) b)) (by simp only; omega) ⟨by first | omega | (simp only; omega), hsk⟩ ⟨rfl, rfl, rfl, rfl, rfl, rfl, trivial⟩
    · have h44b := h44
      try simp only [sxb] at h44
      rw [own_no h44b] at hsk
      refine cj_skip (ej_blk (ej_th ?_))
      refine cj_regionG (gj_step (y_add rfl rfl (by omega)) rfl rfl rfl (gj_step (y_move rfl) rfl rfl rfl (gj_nil ?_)))
      exact ej_nx (k + 1, own) (by simp only; omega) ⟨by first | omega | (simp only; omega), hsk⟩ ⟨rfl, rfl, rfl, rfl, rfl, rfl, trivial⟩
  · have h19b := h19
    try simp only [sxb] at h19
    rw [List.drop_of_length_le (by omega)] at hsk
    have hown : own = ownF (rgL lad st) bs [] := hsk
    subst hown
    refine cj_exit (ej_then_exit (ej_then_exit (ej_blk_hit (ej_th (cj_seq ?_)))))
    refine cj_regionG (gj_step (y_assign rfl) rfl rfl rfl (gj_nil ?_))
    refine ej_th (cj_seq (cj_seq ?_))
    refine cj_ownNil 115 3 encBi ?_
    refine cj_swapO ?_
    refine cj_region ?_
    refine oj_step (y_move rfl) rfl rfl rfl ?_
    refine oj_rangeZ (ek := ekI) (ev := evB) Tryz.underlying155 rfl rfl (fun r51 => ?_)
    refine oj_nil ?_
    refine ej_th (cj_block ?_)
    refine cj_lpi (X := List (Int × BidV) × Option (Int × BidV) × Option Addr × Nat × List BidV) [(4, _), (51, _)] (fun ⟨left, cur, A1, c1, outs⟩ => outs.length + left.length ≤ 32 ∧ (outs ++ left.map (·.2)).Perm ((ownF (rgL lad st) bs []).map (·.2))) (fun ⟨left, cur, A1, c1, outs⟩ => [(12, .slice A1 outs.length c1)]) (fun ⟨left, cur, A1, c1, outs⟩ => [mit ekI evB m15 r51 left cur, ow 115 3 encBi A1 c1 outs, ownB b2 (cellsB 112 [.int .i64 st, .int .i64 rv, .slice Al lad.length cl])]) (fun ⟨left, cur, A1, c1, outs⟩ => [sl (fun b => b < w.heap.size) 2 encRi Al lad, sl (fun b => b < w.heap.size) 3 encBi Ab bs]) (fun ⟨left, cur, A1, c1, outs⟩ => left.length) (ownF (rgL lad st) bs [], none, none, 0, []) (⟨by have := hol; unfold offL at this; rw [(srt_perm _).length_eq, List.length_map] at this; simp only [List.length_nil]; omega, by simp⟩) ⟨rfl, rfl, rfl, trivial⟩ ?_
    rintro ⟨left, cur, A1, c1, outs⟩ ⟨hll, hpm⟩
    dsimp only [List.cons_append, List.nil_append]
    refine cj_seq (cj_region ?_)
    refine oj_nextZ (ek := ekI) (ev := evB) rfl rfl (fun p hpn => ?_)
    refine oj_step (y_extractNx rfl) rfl rfl rfl ?_
    refine oj_nil ?_
    refine ej_th (cj_seq ?_)
    refine cj_cond rfl (fun h53 => ?_) (fun h53 => ?_)
    · have h53b := h53
      try simp only [sxb] at h53
      obtain ⟨⟨i, p⟩, rfl⟩ := nx_some h53b
      have hpi : left[i]? = some p := hpn
      dsimp only [nxL, nxC]
      refine cj_skip (ej_th (cj_block (cj_seq (cj_region ?_))))
      refine oj_step (y_entryZ (ek := ekI) (ev := evB) (p := p) rfl rfl) rfl rfl rfl ?_
      refine oj_step (y_extract rfl rfl) rfl rfl rfl ?_
      refine oj_alloc Tryz.zeroValue115 rfl rfl (fun b14 => ?_)
      refine oj_store rfl rfl rfl rfl Tryz.sizeOf115 rfl ?_
      refine oj_nil ?_
      refine ej_th (cj_region ?_)
      refine oj_step (y_move rfl) rfl rfl rfl ?_
      refine oj_step (y_loadN Tryz.isAgg115 Tryz.sizeOf115 rfl) rfl rfl rfl ?_
      refine oj_buildSlice (cs := [.int .i64 p.2.who, .int .i64 p.2.way, .int .i64 p.2.most]) [.int .i64 0, .int .i64 0, .int .i64 0] Tryz.underlying110 Tryz.sizeOf115 Tryz.zeroValue115 rfl rfl (by kernel_rfl) (by kernel_rfl) rfl (fun b58 => ?_)
      refine oj_append (ys := [p.2]) el110 (fun _ => rfl) encBi_one rfl rfl rfl (reads_lit [p.2] (fun _ => rfl) rfl) (by unfold maxLen; simp only [List.length_cons, List.length_nil]; omega) (by simp only [List.length_cons, List.length_nil]; omega) rfl (fun A59 c59 => ?_)
      refine oj_step (y_assign rfl) rfl rfl rfl ?_
      refine oj_nil ?_
      refine ej_blk ?_
      have hil := (List.getElem?_eq_some_iff.1 hpi).1
      have hel : (left.eraseIdx i).length = left.length - 1 := List.length_eraseIdx_of_lt hil
      exact ej_nx (left.eraseIdx i, some p, A59, c59, outs ++ [p.2]) (by simp only; omega) ⟨by simp only [List.length_append, List.length_cons, List.length_nil]; omega, (erase_perm left i p hpi outs).trans hpm⟩ ⟨rfl, rfl, rfl, trivial⟩
    · have h53b := h53
      try simp only [sxb] at h53
      have hpn2 := nx_none h53b
      subst hpn2
      have hle : left = [] := hpn
      subst hle
      have hperm : outs.Perm ((ownF (rgL lad st) bs []).map (·.2)) := by simpa using hpm
      have hse : srt outs = offL (rgL lad st) bs := srt_eq hperm
      refine cj_exit (ej_then_exit (ej_then_exit (ej_blk_hit (ej_th (cj_seq (cj_region ?_))))))
      refine oj_step (y_move rfl) rfl rfl rfl ?_
      refine oj_mutOw (us := outs) (srt outs) Tryz.call83 rfl (fun w hp ho => k_sortO _ _ _ w (by omega) ho) rfl ?_
      refine oj_nil ?_
      refine ej_th (cj_seq ?_)
      refine cj_regionG (gj_step (y_move rfl) rfl rfl rfl (gj_step (y_assign rfl) rfl rfl rfl (gj_nil ?_)))
      refine ej_th (cj_ret ?_)
      have hsl : (srt outs).length = outs.length := (srt_perm outs).length_eq
      exact ej_ret1 rfl Tryz.results50 rfl (fun w' hp => ⟨A1, c1, by rw [← hse, hsl], hp.below, by rw [← hse]; exact hp.res (fun _ => rfl) (by rw [hsl]; unfold maxLen; omega)⟩)

end Go.Proofs.YtppfniekcgnmjaaGreat.Au
namespace Go.Proofs.YtppfniekcgnmjaaGreat.Au
open Go.Sx Go.RowKit
set_option maxRecDepth 20000
theorem st112 : StructIs Tryz.prog 112 [(0, 3)] [.int .i64 0, .int .i64 0, .slice none 0 0] := ⟨⟨_, Tryz.underlying112, fun w => by simp [Tryz.sizeOf62], Tryz.zeroValue112⟩⟩
theorem st69 : StructIs Tryz.prog 69 [(0, 1), (1, 1)] [.int .i64 0, .int .i64 0] := ⟨⟨_, Tryz.underlying69, fun w => by simp [Tryz.sizeOf3], Tryz.zeroValue69⟩⟩
end Go.Proofs.YtppfniekcgnmjaaGreat.Au
namespace Go.Proofs.YtppfniekcgnmjaaGreat.Au
open Go.Sx Go.RowKit Am
set_option maxRecDepth 20000
theorem k_Sell (st rv : Int) (lad : List RiseV) (Al : Option Addr) (cl : Nat) (bs : List BidV) (Ab : Option Addr) (cb : Nat) (w : World) (hlad : Rd w 2 encRi Al lad) (hbs : Rd w 3 encBi Ab bs) : Calls Tryz.prog 19 #[.agg #[.int .i64 st, .int .i64 rv, .slice Al lad.length cl], .slice Ab bs.length cb] w (fun e w' => e = .returned (.tuple #[.agg #[.int .i64 ((SellV st rv lad bs)).winner, .int .i64 ((SellV st rv lad bs)).price], .int .i64 (SellE st rv lad bs)]) ∧ Grow w w') := by
  have hlen := hbs.len
  refine enter_pure (args := [.agg #[.int .i64 st, .int .i64 rv, .slice Al lad.length cl], .slice Ab bs.length cb]) [sl (fun b => b < w.heap.size) 2 encRi Al lad, sl (fun b => b < w.heap.size) 3 encBi Ab bs] Tryz.func19 rfl (by rw [Tryz.ntmps19]; simp) (fun g hg => by simp at hg; rcases hg with rfl | rfl; exact ⟨hlad, fun _ h => h⟩; exact ⟨hbs, fun _ h => h⟩) ?_
  refine cj_seq (cj_region ?_)
  refine oj_box rfl rfl rfl (fun b2 => ?_)
  refine oj_alloc Tryz.zeroValue69 rfl rfl (fun b4 => ?_)
  refine oj_step (y_assign rfl) rfl rfl rfl ?_
  refine oj_nil ?_
  refine ej_th (cj_seq (cj_seq ?_))
  refine cj_regionG ?_
  refine gj_step (y_loadN Tryz.isAgg62 Tryz.sizeOf62 rfl) rfl rfl rfl (?_)
  refine gj_step (y_call Tryz.call48 rfl (fun w hp => k_Check st rv lad Al cl w hp.rd)) rfl rfl rfl ?_
  refine gj_step (y_assign rfl) rfl rfl rfl (?_)
  refine gj_nil ?_
  refine ej_th (cj_seq ?_)
  refine cj_regionG (gj_step (y_move rfl) rfl rfl rfl (gj_step (y_neq rfl rfl) rfl rfl rfl (gj_nil ?_)))
  refine ej_th ?_
  refine cj_cond rfl (fun h14 => ?_) (fun h14 => ?_)
  · have h14b := h14
    try simp only [sxb] at h14
    obtain ⟨e1, e2⟩ := sell_no (bs := bs) (lotE_no h14b)
    have hno := lotE_no h14b
    refine cj_seq (cj_region ?_)
    refine oj_step (y_build st69 rfl rfl) rfl rfl rfl ?_
    refine oj_step (y_move rfl) rfl rfl rfl ?_
    refine oj_store rfl rfl rfl rfl Tryz.sizeOf69 rfl ?_
    refine oj_step (y_assign rfl) rfl rfl rfl ?_
    refine oj_nil ?_
    refine ej_th (cj_ret (ej_then_ret ?_))
    refine ej_retC2 rfl Tryz.results19 rfl (y_loadN Tryz.isAgg69 Tryz.sizeOf69 rfl) rfl (fun w' hp => ⟨?_, hp.below⟩)
    rw [e1, e2, lotE, hno]; rfl
  · have h14b := h14
    try simp only [sxb] at h14
    have hyes := lotE_0 h14b
    have hok := lot_ok hyes
    refine cj_skip (ej_th (cj_seq (cj_seq ?_)))
    refine cj_regionG ?_
    refine gj_step (y_move rfl) rfl rfl rfl (?_)
    refine gj_step (y_call Tryz.call49 rfl (fun w hp => k_bids bs Ab cb w hp.rd)) rfl rfl rfl ?_
    refine gj_step (y_not rfl) rfl rfl rfl (?_)
    refine gj_nil ?_
    refine ej_th ?_
    refine cj_cond rfl (fun h19 => ?_) (fun h19 => ?_)
    · have h19b := h19
      try simp only [sxb] at h19
      obtain ⟨e1, e2⟩ := sell_no2 hyes (not_t h19b)
      refine cj_seq (cj_region ?_)
      refine oj_step (y_build st69 rfl rfl) rfl rfl rfl ?_
      refine oj_store rfl rfl rfl rfl Tryz.sizeOf69 rfl ?_
      refine oj_step (y_assign rfl) rfl rfl rfl ?_
      refine oj_nil ?_
      refine ej_th (cj_ret (ej_then_ret ?_))
      refine ej_retC2 rfl Tryz.results19 rfl (y_loadN Tryz.isAgg69 Tryz.sizeOf69 rfl) rfl (fun w' hp => ⟨?_, hp.below⟩)
      rw [e1, e2]
    · have h19b := h19
      try simp only [sxb] at h19
      have hby := not_f h19b
      have hbo := bids_ok hby
      obtain ⟨e1, e2⟩ := sell_yes hyes hby
      have hol := offL_len (rgL lad st) bs
      refine cj_skip (ej_th (cj_seq (cj_region ?_)))
      refine oj_step (y_build (cs := [.int .i64 (-1), .int .i64 0]) st69 rfl (by kernel_rfl)) rfl rfl rfl ?_
      refine oj_alloc Tryz.zeroValue69 rfl rfl (fun b7 => ?_)
      refine oj_store rfl rfl rfl rfl Tryz.sizeOf69 rfl ?_
      refine oj_nil ?_
      refine ej_th (cj_seq (cj_region ?_))
      refine oj_step (y_loadN Tryz.isAgg62 Tryz.sizeOf62 rfl) rfl rfl rfl ?_
      refine oj_step (y_build (cs := [.int .i64 st, .int .i64 rv, .slice Al lad.length cl]) st112 rfl (by kernel_rfl)) rfl rfl rfl ?_
      refine oj_step (y_move rfl) rfl rfl rfl ?_
      refine oj_callS (fun A c => .slice A (offL (rgL lad st) bs).length c) 3 encBi (offL (rgL lad st) bs) Tryz.call50 rfl (fun w hp => k_offers st rv lad Al cl bs Ab cb w hp.rd hp.rd hok hbo.1) rfl (fun A25 c25 fp25 hfp25 => ?_)
      refine oj_step (y_assign rfl) rfl rfl rfl ?_
      refine oj_nil ?_
      refine ej_th (cj_seq ?_)
      have hl0 : behF (rv - 1) (rgL lad st) = leastR st rv lad := rfl
      generalize hSS : offL (rgL lad st) bs = SS at *
      refine cj_regionG ?_
      refine gj_step (y_loadN Tryz.isAgg62 Tryz.sizeOf62 rfl) rfl rfl rfl (gj_step (y_build (cs := [.int .i64 st, .int .i64 rv, .slice Al lad.length cl]) st112 rfl (by kernel_rfl)) rfl rfl rfl (gj_step (y_fa fa62_1 rfl) rfl rfl rfl (gj_step (y_load1 Tryz.isAgg3 rfl rfl) rfl rfl rfl (gj_step (y_sub rfl rfl (by have := hok.rv; omega)) rfl rfl rfl (?_)))))
      refine gj_step (y_call Tryz.call51 rfl (fun w hp => k_behind st rv lad Al cl (rv - 1) w hp.rd hok)) rfl rfl rfl ?_
      refine gj_step (y_assign rfl) rfl rfl rfl (?_)
      refine gj_nil ?_
      refine ej_th (cj_seq (cj_seq ?_))
      refine cj_regionG (gj_step (y_move rfl) rfl rfl rfl (gj_step (y_lenA Tryz.underlying110 rfl) rfl rfl rfl (gj_step (y_eql rfl rfl) rfl rfl rfl (gj_step (y_move rfl) rfl rfl rfl (gj_g 2 35 37 rfl rfl rfl rfl (fun hg35 => gj_yes rfl rfl rfl (y_move rfl) rfl rfl (gj_yes rfl rfl rfl (y_eql rfl rfl) rfl rfl (gj_nil rfl))) (gj_step (y_or rfl rfl rfl) rfl rfl rfl (gj_step (y_move rfl) rfl rfl rfl (gj_g 7 39 46 rfl rfl rfl rfl (fun hg39 => gj_yes rfl rfl rfl (y_move rfl) rfl rfl (gj_yes rfl rfl rfl (y_ixR (reads_sl) Tryz.underlying110 Tryz.sizeOf115 rfl rfl (⟨by omega, by have := hg39; simp only [sxb] at this; omega⟩)) rfl rfl (gj_yes rfl rfl rfl (y_faE fa115_0 rfl) rfl rfl (gj_yes rfl rfl rfl (y_faE fa67_2 rfl) rfl rfl (gj_yes rfl rfl rfl (y_ld1 (reads_sl) Tryz.isAgg3 rfl (geq default (by have := hg39; simp only [sxb] at this; omega)) rfl) rfl rfl (gj_yes rfl rfl rfl (y_move rfl) rfl rfl (gj_yes rfl rfl rfl (y_lss rfl rfl) rfl rfl (gj_nil rfl)))))))) (gj_step (y_or rfl rfl rfl) rfl rfl rfl (gj_nil ?_))))))))))
      refine ej_th ?_
      refine cj_cond rfl (fun h47 => ?_) (fun h47 => ?_)
      · have h47b := h47
        try simp only [sxb] at h47
        rw [hl0] at h47b
        have hs := sellP_no (rs := rgL lad st) (st := st) h47b
        rw [hs] at e1
        refine cj_seq (cj_region ?_)
        refine oj_step (y_loadN Tryz.isAgg69 Tryz.sizeOf69 rfl) rfl rfl rfl ?_
        refine oj_store rfl rfl rfl rfl Tryz.sizeOf69 rfl ?_
        refine oj_step (y_assign rfl) rfl rfl rfl ?_
        refine oj_nil ?_
        refine ej_th (cj_ret (ej_then_ret ?_))
        refine ej_retC2 rfl Tryz.results19 rfl (y_loadN Tryz.isAgg69 Tryz.sizeOf69 rfl) rfl (fun w' hp => ⟨?_, hp.below⟩)
        rw [e1, e2]
      · have h47b := h47
        try simp only [sxb] at h47
        rw [hl0] at h47b
        obtain ⟨o, t, hSo, hs⟩ := sellP_yes (rs := rgL lad st) (st := st) h47b
        rw [hs] at e1
        subst hSo
        have ho : (o :: t)[(0 : Int).toNat]? = some o := rfl
        refine cj_skip (ej_th (cj_seq ?_))
        refine cj_regionG (gj_step (y_assign rfl) rfl rfl rfl (gj_nil ?_))
        refine ej_th ?_
        refine cj_cutic (X := Int) [(2, _), (4, _), (5, _), (8, _), (9, _)] ⟨rfl, rfl, rfl, rfl, rfl, trivial⟩ (fun s => s = secT t) (fun s => [(10, .int .i64 s)]) ?_ ?_
        · refine cj_seq ?_
          refine cj_regionG (gj_step (y_move rfl) rfl rfl rfl (gj_step (y_lenA Tryz.underlying110 rfl) rfl rfl rfl (gj_step (y_gtr rfl rfl) rfl rfl rfl (gj_nil ?_))))
          refine ej_th ?_
          refine cj_cond rfl (fun h51 => ?_) (fun h51 => ?_)
          · have h51b := h51
            try simp only [sxb] at h51
            have hs1 : ((o :: t).getD (1 : Int).toNat default).most = secT t := by
              cases t with
              | nil => simp only [List.length_cons, List.length_nil] at h51; omega
              | cons q t2 => rfl
            refine cj_regionG (gj_step (y_move rfl) rfl rfl rfl (gj_step (y_ixR (reads_sl) Tryz.underlying110 Tryz.sizeOf115 rfl rfl (⟨by omega, by omega⟩)) rfl rfl rfl (gj_step (y_faE fa115_0 rfl) rfl rfl rfl (gj_step (y_faE fa67_2 rfl) rfl rfl rfl (gj_step (y_ld1 (reads_sl) Tryz.isAgg3 rfl (geq default (by omega)) rfl) rfl rfl rfl (gj_step (y_assign rfl) rfl rfl rfl (gj_nil ?_)))))))
            exact ej_ct _ hs1 ⟨rfl, rfl, rfl, rfl, rfl, rfl, trivial⟩
          · have h51b := h51
            try simp only [sxb] at h51
            have hs0 : (0 : Int) = secT t := by
              cases t with
              | nil => rfl
              | cons q t2 => simp only [List.length_cons] at h51; omega
            refine cj_skip ?_
            exact ej_ct 0 hs0 ⟨rfl, rfl, rfl, rfl, rfl, rfl, trivial⟩
        · rintro _ rfl
          dsimp only [List.cons_append, List.nil_append]
          refine cj_seq ?_
          refine cj_plan 19 (by kernel_rfl) (by kernel_rfl) ?_
          refine pl_y 0 rfl (y_move rfl) rfl rfl rfl rfl (by kernel_rfl) ?_
          refine pl_y 1 rfl (y_ixR (reads_sl) Tryz.underlying110 Tryz.sizeOf115 rfl rfl (⟨by omega, by simp only [List.length_cons]; omega⟩)) rfl rfl rfl rfl (by kernel_rfl) ?_
          refine pl_y 2 rfl (y_faE fa115_0 rfl) rfl rfl rfl rfl (by kernel_rfl) ?_
          refine pl_y 3 rfl (y_faE fa67_0 rfl) rfl rfl rfl rfl (by kernel_rfl) ?_
          refine pl_y 4 rfl (y_ld1 (reads_sl) Tryz.isAgg3 rfl (ho) rfl) rfl rfl rfl rfl (by kernel_rfl) ?_
          refine pl_y 5 rfl (y_move rfl) rfl rfl rfl rfl (by kernel_rfl) ?_
          refine pl_y 6 rfl (y_loadN Tryz.isAgg62 Tryz.sizeOf62 rfl) rfl rfl rfl rfl (by kernel_rfl) ?_
          refine pl_y 7 rfl (y_build (cs := [.int .i64 st, .int .i64 rv, .slice Al lad.length cl]) st112 rfl (by kernel_rfl)) rfl rfl rfl rfl (by kernel_rfl) ?_
          refine pl_y 8 rfl (y_move rfl) rfl rfl rfl rfl (by kernel_rfl) ?_
          refine pl_y 9 rfl (y_ixR (reads_sl) Tryz.underlying110 Tryz.sizeOf115 rfl rfl (⟨by omega, by simp only [List.length_cons]; omega⟩)) rfl rfl rfl rfl (by kernel_rfl) ?_
          refine pl_y 10 rfl (y_faE fa115_0 rfl) rfl rfl rfl rfl (by kernel_rfl) ?_
          refine pl_y 11 rfl (y_faE fa67_2 rfl) rfl rfl rfl rfl (by kernel_rfl) ?_
          refine pl_y 12 rfl (y_ld1 (reads_sl) Tryz.isAgg3 rfl (ho) rfl) rfl rfl rfl rfl (by kernel_rfl) ?_
          refine pl_y 13 rfl (y_move rfl) rfl rfl rfl rfl (by kernel_rfl) ?_
          refine pl_y 14 rfl (y_call Tryz.call53 rfl (fun w hp => k_price st rv lad Al cl _ _ w hp.rd hok)) rfl rfl rfl rfl (by kernel_rfl) ?_
          refine pl_y 15 rfl (y_call Tryz.call52 rfl (fun w hp => k_largest _ _ w)) rfl rfl rfl rfl (by kernel_rfl) ?_
          refine pl_y 16 rfl (y_build (cs := [.int .i64 o.who, .int .i64 (max (leastR st rv lad) (priceF (rgL lad st) st o.most (secT t)))]) st69 rfl (by kernel_rfl)) rfl rfl rfl rfl (by kernel_rfl) ?_
          refine pl_w1 17 (by kernel_rfl) rfl rfl (pl_fire rfl rfl rfl (by kernel_rfl) ?_)
          refine oj_store rfl rfl rfl rfl Tryz.sizeOf69 rfl ?_
          refine oj_nil ?_
          refine ej_pl (lt_w (by kernel_rfl) (lt_w (by kernel_rfl) (lt_w (by kernel_rfl) (lt_w (by kernel_rfl) (lt_w (by kernel_rfl) (lt_w (by kernel_rfl) (lt_w (by kernel_rfl) (lt_w (by kernel_rfl) (lt_w (by kernel_rfl) (lt_w (by kernel_rfl) (lt_w (by kernel_rfl) (lt_w (by kernel_rfl) (lt_w (by kernel_rfl) (lt_w (by kernel_rfl) (lt_w (by kernel_rfl) (lt_w (by kernel_rfl) (lt_w (by kernel_rfl) (lt_nil)))))))))))))))))) ?_
          refine pl_y 18 rfl (y_assign rfl) rfl rfl rfl rfl (by kernel_rfl) ?_
          refine pl_end (by kernel_rfl) ?_
          refine ej_th (cj_ret ?_)
          refine ej_retC2 rfl Tryz.results19 rfl (y_loadN Tryz.isAgg69 Tryz.sizeOf69 rfl) rfl (fun w' hp => ⟨?_, hp.below⟩)
          rw [e1, e2]

end Go.Proofs.YtppfniekcgnmjaaGreat.Au
namespace Go.Proofs.YtppfniekcgnmjaaGreat.Au
open Go.Sx Go.RowKit
set_option maxRecDepth 20000

end Go.Proofs.YtppfniekcgnmjaaGreat.Au
namespace Go.Proofs.YtppfniekcgnmjaaGreat.Au
open Go.Sx Go.RowKit Am
set_option maxRecDepth 20000
end Go.Proofs.YtppfniekcgnmjaaGreat.Au
namespace Go.Proofs.YtppfniekcgnmjaaGreat.Au
open Go.Sx Go.RowKit
set_option maxRecDepth 20000

end Go.Proofs.YtppfniekcgnmjaaGreat.Au
namespace Go.Proofs.YtppfniekcgnmjaaGreat.Au
open Go.Sx Go.RowKit Am
set_option maxRecDepth 20000
end Go.Proofs.YtppfniekcgnmjaaGreat.Au
namespace Go.Proofs.YtppfniekcgnmjaaGreat.Au
open Go.Sx Go.RowKit
set_option maxRecDepth 20000

end Go.Proofs.YtppfniekcgnmjaaGreat.Au
namespace Go.Proofs.YtppfniekcgnmjaaGreat.Au
open Go.Sx Go.RowKit Am
set_option maxRecDepth 20000
end Go.Proofs.YtppfniekcgnmjaaGreat.Au
namespace Go.Proofs.YtppfniekcgnmjaaGreat.Au
open Go Go.Sx Go.RowKit Am

structure ListV where
  A : Option Addr
  c : Nat
  l : List Int
abbrev encLs (x : ListV) : List Value := [.slice x.A x.l.length x.c]
def GoodL (w : World) (x : ListV) : Prop := Rd w 1 enInt x.A x.l
theorem GoodL.mono {w w' : World} {x : ListV} (h : GoodL w x) (hg : Grow w w') : GoodL w' x := Rd.mono h hg
/-- all rows read as they are -/
def rwF (fp : Nat → Prop) (vs : List ListV) : Fact where
  fp := fp
  P := fun w => ∀ r ∈ vs, (sl fp 1 enInt r.A r.l).P w
  stab := fun h k r hr => (sl fp 1 enInt r.A r.l).stab h (k r hr)
theorem rw_good {F : Nat → Prop} {w0 w : World} {O S : List Fact} (hp : Hp F w0 O S w) {fp : Nat → Prop} {vs : List ListV} (h : rwF fp vs ∈ S) : ∀ r ∈ vs, GoodL w r := fun r hr => sl_fp ((hp.shared _ h).1 r hr) (fun i hi => (hp.shared _ h).2.1 i hi)
def rowsV (vs : List ListV) : List (List Int) := vs.map (fun r : ListV => r.l)
theorem rowsV_len (vs : List ListV) : (rowsV vs).length = vs.length := by simp [rowsV]
theorem rowsV_get {vs : List ListV} {i : Nat} {r : ListV} (h : vs[i]? = some r) : (rowsV vs)[i]? = some r.l := by unfold rowsV; rw [List.getElem?_map, h]; rfl
theorem vv_get {vs : List ListV} {i j : Nat} {r : ListV} {x : Int} (h : vs[i]? = some r) (hx : r.l[j]? = some x) : vv (rowsV vs) i j = x := by
  unfold vv
  rw [List.getD_eq_getElem?_getD (l := rowsV vs), rowsV_get h]
  simp only [Option.getD_some]
  rw [List.getD_eq_getElem?_getD, hx]; rfl
def okv (n : Int) : Bool := btw 0 n 100000
def rowOk (m : Nat) (r : ListV) : Bool := ((r.l.length : Int) == (m : Int)) && r.l.all okv
def cloB (res : List Int) (vs : List ListV) : Bool := ((btw 1 res.length 5 && res.all okv) && btw 1 vs.length 6) && vs.all (rowOk res.length)
def cloE (res : List Int) (vs : List ListV) : Int := if cloB res vs = true then 0 else 62
structure CloOk (res : List Int) (rows : List (List Int)) : Prop where
  m : res.length ≤ 6
  n : rows.length ≤ 6
  len : ∀ r ∈ rows, r.length = res.length
  res : ∀ x ∈ res, 0 ≤ x ∧ x ≤ 100000
  val : ∀ r ∈ rows, ∀ x ∈ r, 0 ≤ x ∧ x ≤ 100000
theorem CloOk.nn {res : List Int} {rows : List (List Int)} (h : CloOk res rows) : nnL res ∧ ∀ r ∈ rows, nnL r := ⟨fun x hx => (h.res x hx).1, fun r hr x hx => (h.val r hr x hx).1⟩
theorem clo_ok {res : List Int} {vs : List ListV} (h : cloB res vs = true) : CloOk res (rowsV vs) ∧ (1 ≤ res.length ∧ res.length ≤ 5) ∧ (1 ≤ vs.length ∧ vs.length ≤ 6) := by
  unfold cloB at h
  simp only [Bool.and_eq_true, btw_t] at h
  obtain ⟨⟨⟨h1, h2⟩, h3⟩, h4⟩ := h
  have hr : ∀ r ∈ rowsV vs, r.length = res.length ∧ ∀ x ∈ r, 0 ≤ x ∧ x ≤ 100000 := by
    intro r hr
    obtain ⟨v, hv, e⟩ := List.mem_map.1 hr
    have := List.all_eq_true.1 h4 v hv
    unfold rowOk at this
    rw [Bool.and_eq_true, beq_iff_eq] at this
    rw [← e]
    exact ⟨by have := this.1; omega, fun x hx => btw_t.1 (List.all_eq_true.1 this.2 x hx)⟩
  refine ⟨⟨by omega, by rw [rowsV_len]; omega, fun r h => (hr r h).1, fun x hx => btw_t.1 (List.all_eq_true.1 h2 x hx), fun r h => (hr r h).2⟩, by omega, by omega⟩
theorem cloE_0 {res : List Int} {vs : List ListV} (h : (cloE res vs != 0) = false) : cloB res vs = true := by
  unfold cloE at h
  cases hb : cloB res vs with
  | true => rfl
  | false => rw [hb] at h; simp at h
theorem cloE_no {res : List Int} {vs : List ListV} (h : (cloE res vs != 0) = true) : cloB res vs = false := by
  unfold cloE at h
  cases hb : cloB res vs with
  | true => rw [hb] at h; simp at h
  | false => rfl
def cloH (res : List Int) (vs : List ListV) : Bool := (btw 1 res.length 5 && res.all okv) && btw 1 vs.length 6
theorem cloH_V (res : List Int) (vs : List ListV) : (((!(decide ((1 : Int) ≤ res.length) && decide ((res.length : Int) ≤ 5))) || !(res.all okv)) || !(decide ((1 : Int) ≤ vs.length) && decide ((vs.length : Int) ≤ 6))) = !(cloH res vs) := by
  unfold cloH btw
  rw [← Bool.not_and, ← Bool.not_and]
theorem cloB_H (res : List Int) (vs : List ListV) : cloB res vs = (cloH res vs && vs.all (rowOk res.length)) := rfl
theorem row_V (m : Nat) (r : ListV) : (((r.l.length : Int) != (m : Int)) || !(r.l.all okv)) = !(rowOk m r) := by
  unfold rowOk
  rw [Bool.not_and]; rfl
/-! lists that fit -/
theorem seek_has : ∀ (l : List Int) (n i : Int), 0 ≤ i → decide (0 ≤ seek l n i) = l.contains n
  | [], n, i, _ => by simp [seek]
  | x :: l, n, i, h => by
    rw [seek]
    by_cases hx : x = n
    · rw [if_pos hx, hx]; simp [h]
    · rw [if_neg hx, seek_has l n (i + 1) (by omega), List.contains_cons]
      have : (n == x) = false := beq_eq_false_iff_ne.2 (fun e => hx e.symm)
      rw [this, Bool.false_or]
theorem ow_sl {α : Type} {fp' : Nat → Prop} {e sz c : Nat} {enc : α → List Value} {A : Option Addr} {xs : List α} {w : World} (h : (ow e sz enc A c xs).P w) (he : ∀ x, (enc x).length = sz) (hm : xs.length ≤ maxLen) (hf : ∀ b, (ow e sz enc A c xs).fp b → fp' b) : (sl fp' sz enc A xs).P w := by
  refine ⟨hm, fun hne => ?_⟩
  obtain ⟨a, ha, hc⟩ := ow_cells h he hne
  exact ⟨a, ha, hf _ (by rw [ha]; rfl), hc⟩
theorem Hp.frz {F : Nat → Prop} {w0 w : World} {O O' S : List Fact} (hp : Hp F w0 O S w) (o f : Fact) (hs : (o :: O').Sublist O) (hP : f.P w) (hfp : ∀ b, f.fp b → o.fp b ∨ ∃ g ∈ S, g.fp b) : Hp F w0 O' (f :: S) w := by
  have h1 := hp.sub (O' := o :: O') (S' := S) hs (fun _ h => h)
  have h2 := hp.sub (O' := O') (S' := S) ((List.sublist_cons_self o O').trans hs) (fun _ h => h)
  refine ⟨h2.os, h2.tape, h2.output, h2.size, h2.fr, h2.own, h2.apart, fun g hg => ?_⟩
  rcases List.mem_cons.1 hg with rfl | hg
  · refine ⟨hP, fun b hb => ?_, fun q hq b hb hqb => ?_⟩
    · rcases hfp b hb with h | ⟨g, hg, h⟩
      · exact ((h1.own o (List.mem_cons_self ..)).2 b h).1
      · exact (h2.shared g hg).2.1 b h
    · rcases hfp b hb with h | ⟨g, hg, h⟩
      · exact (List.pairwise_cons.1 h1.apart).1 q hq b h hqb
      · exact (h2.shared g hg).2.2 q hq b h hqb
  · exact h2.shared g hg
theorem ej_frz {C : Cx} {Q : Exit → Act → World → Prop} {e : Exit} {L : Regs} {O O' S : List Fact} (o f : Fact) [hs : SubO (o :: O') O] (hP : ∀ w, Hp C.F C.w0 O S w → f.P w) (hfp : ∀ b, f.fp b → o.fp b ∨ ∃ g ∈ S, g.fp b) (k : EJ C Q e L O' (f :: S)) : EJ C Q e L O S :=
  fun a w hr hp => k a w hr (Hp.frz hp o f hs.sub (hP w hp) hfp)
theorem encLs_one (x : ListV) : ∀ v ∈ encLs x, v.oneCell' = true := by simp [encLs, Value.oneCell']
theorem rows_new {w0 w : World} {O S : List Fact} (hp : Hp (fun b => b < w0.heap.size) w0 O S w) {fp : Nat → Prop} {rs : List ListV} {e c : Nat} {A : Option Addr} {l : List Int} (hfp : ∀ b, fp b → w0.heap.size ≤ b) (hm : l.length ≤ maxLen) (h : rwF fp rs ∈ S) (ho : ow e 1 enInt A c l ∈ O) : (rwF (fun i => (fp i ∨ (ow e 1 enInt A c l).fp i) ∧ w0.heap.size ≤ i) (rs ++ [⟨A, c, l⟩])).P w := by
  intro r hr
  rcases List.mem_append.1 hr with hr | hr
  · exact sl_fp ((hp.shared _ h).1 r hr) (fun b hb => ⟨.inl hb, hfp b hb⟩)
  · rw [List.mem_singleton.1 hr]
    exact ow_sl (hp.own _ ho).1 enInt_len hm (fun b hb => ⟨.inr hb, Nat.le_of_not_lt ((hp.own _ ho).2 b hb).2⟩)
theorem with_facts {w0 w : World} {O S : List Fact} (hp : Hp (fun b => b < w0.heap.size) w0 O S w) {fp : Nat → Prop} {rs : List ListV} {A Av : Option Addr} {c cv : Nat} {l : List Int} (hfp : ∀ b, fp b → w0.heap.size ≤ b) (hl : l.length ≤ maxLen) (hr : rs.length ≤ maxLen) (h1 : ow 3 1 enInt A c l ∈ O) (h2 : ow 23 1 encLs Av cv rs ∈ O) (h3 : rwF fp rs ∈ S) :
    ∀ g ∈ [sl (fun i => w0.heap.size ≤ i ∧ i < w.heap.size) 1 enInt A l, sl (fun i => w0.heap.size ≤ i ∧ i < w.heap.size) 1 encLs Av rs, rwF (fun i => w0.heap.size ≤ i ∧ i < w.heap.size) rs], g.P w ∧ ∀ b, g.fp b → w0.heap.size ≤ b ∧ b < w.heap.size ∧ ∀ o ∈ ([] : List Fact), ¬ o.fp b := by
  intro g hg
  have hn : ∀ o ∈ O, ∀ b, o.fp b → w0.heap.size ≤ b ∧ b < w.heap.size := fun o ho b hb => ⟨Nat.le_of_not_lt ((hp.own o ho).2 b hb).2, ((hp.own o ho).2 b hb).1⟩
  simp only [List.mem_cons, List.mem_nil_iff, or_false] at hg
  rcases hg with rfl | rfl | rfl
  · exact ⟨ow_sl (hp.own _ h1).1 enInt_len hl (fun b hb => hn _ h1 b hb), fun b hb => ⟨hb.1, hb.2, by simp⟩⟩
  · exact ⟨ow_sl (hp.own _ h2).1 (fun _ => rfl) hr (fun b hb => hn _ h2 b hb), fun b hb => ⟨hb.1, hb.2, by simp⟩⟩
  · exact ⟨fun r hr => sl_fp ((hp.shared _ h3).1 r hr) (fun b hb => ⟨hfp b hb, (hp.shared _ h3).2.1 b hb⟩), fun b hb => ⟨hb.1, hb.2, by simp⟩⟩
/-- a closing that was made anew -/
structure WithZ where
  B : Option Addr
  d : Nat
  Bv : Option Addr
  dv : Nat
  rows : List ListV
  n1 : Nat
  n2 : Nat
theorem withV_snoc {vs : List ListV} {i k : Nat} {r : ListV} (h : vs[i]? = some r) (rows : List ListV) (A : Option Addr) (c : Nat) (hr : rowsV rows = withV ((rowsV vs).take i) k) : rowsV (rows ++ [⟨A, c, r.l ++ [r.l.getD k 0]⟩]) = withV ((rowsV vs).take (i + 1)) k := by
  rw [List.take_add_one, rowsV_get h]
  unfold rowsV withV at *
  rw [List.map_append, hr, List.map_append]; rfl
theorem clo_with {res : List Int} {rows : List (List Int)} {k : Nat} (h : CloOk res rows) (h5 : res.length ≤ 5) : CloOk (withR res k) (withV rows k) := by
  have hb : ∀ l : List Int, (∀ x ∈ l, 0 ≤ x ∧ x ≤ 100000) → ∀ x ∈ l ++ [l.getD k 0], 0 ≤ x ∧ x ≤ 100000 := by
    intro l hl x hx
    rcases List.mem_append.1 hx with e | e
    · exact hl x e
    · simp only [List.mem_singleton] at e
      rw [e, List.getD_eq_getElem?_getD]
      cases hq : l[k]? with
      | none => simp
      | some y => exact hl y (List.mem_of_getElem? hq)
  refine ⟨by rw [with_len]; omega, by rw [withV_len]; exact h.n, fun r hr => ?_, hb res h.res, fun r hr => ?_⟩
  · obtain ⟨l, hl, e⟩ := List.mem_map.1 hr
    rw [← e, with_len, List.length_append, h.len l hl]; rfl
  · obtain ⟨l, hl, e⟩ := List.mem_map.1 hr
    rw [← e]; exact hb l (h.val l hl)
theorem worth_bd {res : List Int} {rows : List (List Int)} {to : List Int} (h : CloOk res rows) (ht : to.length ≤ rows.length) : 0 ≤ worthP res rows to ∧ worthP res rows to ≤ 1200000 := by
  refine ⟨worth_nn h.nn.1 h.nn.2 to, ?_⟩
  have hvv : ∀ i j, vv rows i j ≤ 100000 := by
    intro i j
    unfold vv
    rw [List.getD_eq_getElem?_getD (l := rows)]
    cases hr : rows[i]? with
    | none => simp
    | some r =>
      simp only [Option.getD_some]
      rw [List.getD_eq_getElem?_getD]
      cases hx : r[j]? with
      | none => simp
      | some x => exact (h.val r (List.mem_of_getElem? hr) x (List.mem_of_getElem? hx)).2
  have g1 : ∀ (l : List Int) (k n : Int), (∀ x ∈ l, 0 ≤ x ∧ x ≤ 100000) → wFree to l k n ≤ n + 100000 * l.length := by
    intro l
    induction l with
    | nil => intro k n _; simp [wFree]
    | cons r l ih =>
      intro k n hl
      rw [wFree]
      have h1 := ih (k + 1) (if to.contains k then n else n + r) (fun x hx => hl x (List.mem_cons_of_mem _ hx))
      have h2 := hl r (List.mem_cons_self ..)
      have h3 : (if to.contains k then n else n + r) ≤ n + 100000 := by split <;> omega
      rw [List.length_cons]; omega
  have g2 : ∀ (t : List Int) (i : Nat) (n : Int), wGot rows t i n ≤ n + 100000 * t.length := by
    intro t
    induction t with
    | nil => intro i n; simp [wGot]
    | cons k t ih =>
      intro i n
      rw [wGot]
      have h1 := ih (i + 1) (if 0 ≤ k then n + vv rows i k.toNat else n)
      have h2 := hvv i k.toNat
      have h3 : (if 0 ≤ k then n + vv rows i k.toNat else n) ≤ n + 100000 := by split <;> omega
      rw [List.length_cons]; omega
  have e1 := g1 res 0 0 h.res
  have e2 := g2 to 0 (wFree to res 0 0)
  have := h.m; have := h.n
  unfold worthP
  omega
theorem best_bd {res : List Int} {rows : List (List Int)} (h : CloOk res rows) : 0 ≤ (bestF res rows).2 ∧ (bestF res rows).2 ≤ 1200000 := by
  obtain ⟨_, h2, h3, _⟩ := best_spec h.nn.1 h.nn.2
  rw [h3]; exact worth_bd h (by omega)
def CloA (res : List Int) (vs : List ListV) : List Int × List Int := if cloB res vs = true then ((bestF res (rowsV vs)).1, pricesL res (rowsV vs)) else ([], [])
theorem cloA_no {res : List Int} {vs : List ListV} (h : cloB res vs = false) : CloA res vs = ([], []) ∧ cloE res vs = 62 := by unfold CloA cloE; rw [h]; simp
theorem cloA_yes {res : List Int} {vs : List ListV} (h : cloB res vs = true) : CloA res vs = ((bestF res (rowsV vs)).1, pricesL res (rowsV vs)) ∧ cloE res vs = 0 := by unfold CloA cloE; rw [h]; simp
theorem prices_snoc (res : List Int) (rows : List (List Int)) (k : Nat) : (List.range (k + 1)).map (priceC res rows) = (List.range k).map (priceC res rows) ++ [priceC res rows k] := by rw [List.range_succ, List.map_append]; rfl
theorem award_facts {w0 w : World} {O S : List Fact} (hp : Hp (fun b => b < w0.heap.size) w0 O S w) {A B : Option Addr} {c d : Nat} {l m : List Int} (hl : l.length ≤ maxLen) (hm : m.length ≤ maxLen) (h1 : ow 3 1 enInt A c l ∈ O) (h2 : ow 3 1 enInt B d m ∈ O) :
    ∀ g ∈ [sl (fun i => w0.heap.size ≤ i ∧ i < w.heap.size) 1 enInt A l, sl (fun i => w0.heap.size ≤ i ∧ i < w.heap.size) 1 enInt B m], g.P w ∧ ∀ b, g.fp b → w0.heap.size ≤ b ∧ b < w.heap.size ∧ ∀ o ∈ ([] : List Fact), ¬ o.fp b := by
  intro g hg
  have hn : ∀ o ∈ O, ∀ b, o.fp b → w0.heap.size ≤ b ∧ b < w.heap.size := fun o ho b hb => ⟨Nat.le_of_not_lt ((hp.own o ho).2 b hb).2, ((hp.own o ho).2 b hb).1⟩
  simp only [List.mem_cons, List.mem_nil_iff, or_false] at hg
  rcases hg with rfl | rfl
  · exact ⟨ow_sl (hp.own _ h1).1 enInt_len hl (fun b hb => hn _ h1 b hb), fun b hb => ⟨hb.1, hb.2, by simp⟩⟩
  · exact ⟨ow_sl (hp.own _ h2).1 enInt_len hm (fun b hb => hn _ h2 b hb), fun b hb => ⟨hb.1, hb.2, by simp⟩⟩
theorem nil_facts {w0 w : World} {A B : Option Addr} : ∀ g ∈ [sl (fun i => w0.heap.size ≤ i ∧ i < w.heap.size) 1 enInt A [], sl (fun i => w0.heap.size ≤ i ∧ i < w.heap.size) 1 enInt B []], g.P w ∧ ∀ b, g.fp b → w0.heap.size ≤ b ∧ b < w.heap.size ∧ ∀ o ∈ ([] : List Fact), ¬ o.fp b := by
  intro g hg
  simp only [List.mem_cons, List.mem_nil_iff, or_false] at hg
  rcases hg with rfl | rfl
  · exact ⟨⟨Nat.zero_le _, fun h => absurd rfl h⟩, fun b hb => ⟨hb.1, hb.2, by simp⟩⟩
  · exact ⟨⟨Nat.zero_le _, fun h => absurd rfl h⟩, fun b hb => ⟨hb.1, hb.2, by simp⟩⟩
theorem bit_T (n k : Nat) : (((n / 2 ^ k : Nat) : Int) % 2 == 1) = n.testBit k := by
  rw [Nat.testBit_eq_decide_div_mod_eq]
  generalize n / 2 ^ k = m
  by_cases h : m % 2 = 1
  · rw [decide_eq_true h]; exact beq_iff_eq.2 (by omega)
  · rw [decide_eq_false h]; exact beq_eq_false_iff_ne.2 (by omega)
theorem most_bd {res : List Int} : ∀ {rows : List (List Int)}, CloOk res rows → ∀ f : Nat, 0 ≤ mostR res rows f ∧ mostR res rows f ≤ 600000 + 100000 * rows.length := by
  intro rows h f
  obtain ⟨⟨σ, s1, s2, s3⟩, b⟩ := mostR_spec res rows f
  have h0 := b (fun _ => none) ⟨fun _ _ _ h => (by cases h), fun _ _ _ _ _ h => (by cases h)⟩ (fun _ _ _ h => (by cases h))
  have hz : wt rows.length (wv res rows) (fun _ => none) = 0 := (sumN_congr (f := fun i => gt (wv res rows) i none) (g := fun _ => 0) (fun _ _ => rfl)).trans (sumN_zero _)
  have hf0 : 0 ≤ freeR res f := by
    have := sumN_le (n := res.length) (f := fun _ => 0) (g := fun j => if f.testBit j then rv res j else 0) (fun j hj => by split; exact getD_nn h.nn.1 j; exact Int.le_refl _)
    rw [sumN_zero] at this; exact this
  have hf1 : freeR res f ≤ 100000 * res.length := by
    have key : ∀ n, sumN n (fun j => if f.testBit j then rv res j else 0) ≤ 100000 * n := by
      intro n
      induction n with
      | zero => simp [sumN]
      | succ n ih =>
        rw [sumN]
        have : (if f.testBit n then rv res n else 0) ≤ 100000 := by
          split
          · unfold rv
            rw [List.getD_eq_getElem?_getD]
            cases hx : res[n]? with
            | none => simp
            | some x => exact (h.res x (List.mem_of_getElem? hx)).2
          · omega
        omega
    exact key _
  have hw1 : wt rows.length (wv res rows) σ ≤ 100000 * rows.length := by
    have key : ∀ n, sumN n (fun i => gt (wv res rows) i (σ i)) ≤ 100000 * n := by
      intro n
      induction n with
      | zero => simp [sumN]
      | succ n ih =>
        rw [sumN]
        have : gt (wv res rows) n (σ n) ≤ 100000 := by
          cases σ n with
          | none => show (0 : Int) ≤ 100000; omega
          | some j =>
            show vv rows n j - rv res j ≤ 100000
            have h1 : 0 ≤ rv res j := getD_nn h.nn.1 j
            have h2 : vv rows n j ≤ 100000 := by
              unfold vv
              rw [List.getD_eq_getElem?_getD (l := rows)]
              cases hr : rows[n]? with
              | none => simp
              | some r =>
                simp only [Option.getD_some]
                rw [List.getD_eq_getElem?_getD]
                cases hx : r[j]? with
                | none => simp
                | some x => exact (h.val r (List.mem_of_getElem? hr) x (List.mem_of_getElem? hx)).2
            omega
        omega
    exact key _
  have := h.m
  omega
theorem CloOk.drop {res : List Int} {rows : List (List Int)} (h : CloOk res rows) (k : Nat) : CloOk res (rows.drop k) :=
  ⟨h.m, by rw [List.length_drop]; have := h.n; omega, fun r hr => h.len r (List.mem_of_mem_drop hr), h.res, fun r hr => h.val r (List.mem_of_mem_drop hr)⟩
end Go.Proofs.YtppfniekcgnmjaaGreat.Au
namespace Go.Proofs.YtppfniekcgnmjaaGreat.Au
open Go.Sx Go.RowKit
set_option maxRecDepth 20000
theorem fa130_0 : FieldIs Tryz.prog 130 0 0 1 false := ⟨⟨_, _, Tryz.underlying130, rfl, rfl, Tryz.sizeOf23, Tryz.isAgg23, by decide⟩⟩
theorem fa130_1 : FieldIs Tryz.prog 130 1 1 1 false := ⟨⟨_, _, Tryz.underlying130, rfl, rfl, Tryz.sizeOf128, Tryz.isAgg128, by decide⟩⟩
theorem fa226_0 : FieldIs Tryz.prog 226 0 0 2 true := ⟨⟨_, _, Tryz.underlying226, rfl, rfl, Tryz.sizeOf130, Tryz.isAgg130, by decide⟩⟩
end Go.Proofs.YtppfniekcgnmjaaGreat.Au
namespace Go.Proofs.YtppfniekcgnmjaaGreat.Au
open Go.Sx Go.RowKit Am
set_option maxRecDepth 20000
theorem k_IndexI (l : List Int) (A : Option Addr) (c : Nat) (n : Int) (w : World) (hl : Rd w 1 enInt A l) : Calls Tryz.prog 97 #[.slice A l.length c, .int .i64 n] w (fun e w' => e = .returned (.int .i64 (seek l n 0)) ∧ Grow w w') := by
  have hlen := hl.len
  refine enter_pure (args := [.slice A l.length c, .int .i64 n]) [sl (fun b => b < w.heap.size) 1 enInt A l] Tryz.func97 rfl (by rw [Tryz.ntmps97]; simp) (fun g hg => by simp at hg; subst hg; exact ⟨hl, fun _ h => h⟩) ?_
  refine cj_seq ?_
  refine cj_regionG (gj_step (y_assign rfl) rfl rfl rfl (gj_nil ?_))
  refine ej_th (cj_seq (cj_seq ?_))
  refine cj_regionG (gj_step (y_move rfl) rfl rfl rfl (gj_step (y_lenA Tryz.underlying23 rfl) rfl rfl rfl (gj_step (y_move rfl) rfl rfl rfl (gj_nil ?_))))
  refine ej_th (cj_block ?_)
  refine cj_lpic (X := Nat) [(0, _), (1, _), (7, _)] (fun k => k ≤ l.length ∧ seek (l.drop k) n k = seek l n 0) (fun k => [(8, .int .i64 k)]) (fun k => l.length - k) 0 (⟨Nat.zero_le _, rfl⟩) ⟨rfl, rfl, rfl, rfl, trivial⟩ ?_
  rintro k ⟨hk, hsk⟩
  dsimp only [List.cons_append, List.nil_append]
  refine cj_seq ?_
  refine cj_regionG (gj_step (y_lss rfl rfl) rfl rfl rfl (gj_nil ?_))
  refine ej_th (cj_seq ?_)
  refine cj_cond rfl (fun h9 => ?_) (fun h9 => ?_)
  · have h9b := h9
    try simp only [sxb] at h9
    obtain ⟨x, hx⟩ : ∃ x, l[k]? = some x := ⟨_, List.getElem?_eq_getElem (by omega)⟩
    rw [seek_drop l n k x hx] at hsk
    refine cj_skip (ej_th (cj_seq (cj_block (cj_seq ?_))))
    refine cj_regionG (gj_step (y_move rfl) rfl rfl rfl (gj_step (y_assign rfl) rfl rfl rfl (gj_nil ?_)))
    refine ej_th (cj_seq ?_)
    refine cj_regionG (gj_step (y_move rfl) rfl rfl rfl (gj_step (y_move rfl) rfl rfl rfl (gj_step (y_move rfl) rfl rfl rfl (gj_step (y_ixR (reads_sl) Tryz.underlying23 Tryz.sizeOf3 rfl rfl (⟨by omega, by omega⟩)) rfl rfl rfl (gj_step (y_ld0 (reads_sl) Tryz.isAgg3 rfl (hx) rfl) rfl rfl rfl (gj_step (y_eql rfl rfl) rfl rfl rfl (gj_nil ?_)))))))
    refine ej_th ?_
    refine cj_cond rfl (fun h16 => ?_) (fun h16 => ?_)
    · have h16b := h16
      try simp only [sxb] at h16
      refine cj_seq ?_
      refine cj_regionG (gj_step (y_move rfl) rfl rfl rfl (gj_step (y_assign rfl) rfl rfl rfl (gj_nil ?_)))
      refine ej_th (cj_ret (ej_blk_ret (ej_then_ret (ej_then_ret (ej_blk_ret (ej_then_ret ?_))))))
      refine ej_ret1 rfl Tryz.results97 rfl (fun w' hp => ⟨?_, hp.below⟩)
      rw [← hsk, if_pos h16.symm]
    · have h16b := h16
      try simp only [sxb] at h16
      refine cj_skip (ej_blk (ej_th ?_))
      refine cj_regionG (gj_step (y_add rfl rfl (by omega)) rfl rfl rfl (gj_step (y_move rfl) rfl rfl rfl (gj_nil ?_)))
      exact ej_nx (k + 1) (by omega) ⟨by omega, by rw [← hsk, if_neg (fun e => h16 e.symm)]⟩ ⟨rfl, rfl, rfl, rfl, trivial⟩
  · have h9b := h9
    try simp only [sxb] at h9
    refine cj_exit (ej_then_exit (ej_then_exit (ej_blk_hit (ej_th (cj_seq ?_)))))
    refine cj_regionG (gj_step (y_assign rfl) rfl rfl rfl (gj_nil ?_))
    refine ej_th (cj_ret ?_)
    refine ej_ret1 rfl Tryz.results97 rfl (fun w' hp => ⟨?_, hp.below⟩)
    rw [← hsk, List.drop_of_length_le (by omega)]; rfl

theorem k_ContI (l : List Int) (A : Option Addr) (c : Nat) (n : Int) (w : World) (hl : Rd w 1 enInt A l) : Calls Tryz.prog 68 #[.slice A l.length c, .int .i64 n] w (fun e w' => e = .returned (.bool (l.contains n)) ∧ Grow w w') := by
  refine enter_pure (args := [.slice A l.length c, .int .i64 n]) [sl (fun b => b < w.heap.size) 1 enInt A l] Tryz.func68 rfl (by rw [Tryz.ntmps68]; simp) (fun g hg => by simp at hg; subst hg; exact ⟨hl, fun _ h => h⟩) ?_
  refine cj_seq ?_
  refine cj_regionG (gj_step (y_assign rfl) rfl rfl rfl (gj_nil ?_))
  refine ej_th (cj_seq ?_)
  refine cj_regionG ?_
  refine gj_step (y_move rfl) rfl rfl rfl (gj_step (y_move rfl) rfl rfl rfl (?_))
  refine gj_step (y_call Tryz.call97 rfl (fun w hp => k_IndexI l A c n w hp.rd)) rfl rfl rfl ?_
  refine gj_step (y_geq rfl rfl) rfl rfl rfl (gj_step (y_assign rfl) rfl rfl rfl (?_))
  refine gj_nil ?_
  refine ej_th (cj_ret ?_)
  refine ej_ret1 rfl Tryz.results68 rfl (fun w' hp => ⟨?_, hp.below⟩)
  rw [seek_has l n 0 (Int.le_refl _)]

theorem k_clW (n : Int) (w : World)  : Calls Tryz.prog 143 #[.int .i64 n] w (fun e w' => e = .returned (.bool (!(okv n))) ∧ Grow w w') := by
  refine enter_pure (args := [.int .i64 n]) [] Tryz.func143 rfl (by rw [Tryz.ntmps143]; simp) (by simp) ?_
  refine cj_seq ?_
  refine cj_regionG (gj_step (y_assign rfl) rfl rfl rfl (gj_nil ?_))
  refine ej_th (cj_seq ?_)
  refine cj_regionG ?_
  refine gj_step (y_move rfl) rfl rfl rfl (?_)
  refine gj_step (y_call Tryz.call78 rfl (fun w hp => k_within _ _ _ w)) rfl rfl rfl ?_
  refine gj_step (y_not rfl) rfl rfl rfl (gj_step (y_assign rfl) rfl rfl rfl (?_))
  refine gj_nil ?_
  refine ej_th (cj_ret ?_)
  exact ej_ret1 rfl Tryz.results143 rfl (fun w' hp => ⟨rfl, hp.below⟩)

theorem k_IndexW (l : List Int) (A : Option Addr) (c : Nat) (w : World) (hl : Rd w 1 enInt A l) : Calls Tryz.prog 101 #[.slice A l.length c, .func (.func 143) #[] #[]] w (fun e w' => e = .returned (.int .i64 (firstNo okv l 0)) ∧ Grow w w') := by
  have hlen := hl.len
  refine enter_pure (args := [.slice A l.length c, .func (.func 143) #[] #[]]) [sl (fun b => b < w.heap.size) 1 enInt A l] Tryz.func101 rfl (by rw [Tryz.ntmps101]; simp) (fun g hg => by simp at hg; subst hg; exact ⟨hl, fun _ h => h⟩) ?_
  refine cj_seq ?_
  refine cj_regionG (gj_step (y_assign rfl) rfl rfl rfl (gj_nil ?_))
  refine ej_th (cj_seq (cj_seq ?_))
  refine cj_regionG (gj_step (y_move rfl) rfl rfl rfl (gj_step (y_lenA Tryz.underlying23 rfl) rfl rfl rfl (gj_step (y_move rfl) rfl rfl rfl (gj_nil ?_))))
  refine ej_th (cj_block ?_)
  refine cj_lpic (X := Nat) [(0, _), (1, _), (7, _)] (fun k => k ≤ l.length ∧ firstNo okv (l.drop k) k = firstNo okv l 0) (fun k => [(8, .int .i64 k)]) (fun k => l.length - k) 0 (⟨Nat.zero_le _, rfl⟩) ⟨rfl, rfl, rfl, rfl, trivial⟩ ?_
  rintro k ⟨hk, hsk⟩
  dsimp only [List.cons_append, List.nil_append]
  refine cj_seq ?_
  refine cj_regionG (gj_step (y_lss rfl rfl) rfl rfl rfl (gj_nil ?_))
  refine ej_th (cj_seq ?_)
  refine cj_cond rfl (fun h9 => ?_) (fun h9 => ?_)
  · have h9b := h9
    try simp only [sxb] at h9
    obtain ⟨x, hx⟩ : ∃ x, l[k]? = some x := ⟨_, List.getElem?_eq_getElem (by omega)⟩
    rw [firstNo_drop okv l k x hx] at hsk
    refine cj_skip (ej_th (cj_seq (cj_block (cj_seq ?_))))
    refine cj_regionG (gj_step (y_move rfl) rfl rfl rfl (gj_step (y_assign rfl) rfl rfl rfl (gj_nil ?_)))
    refine ej_th (cj_seq ?_)
    refine cj_regionG ?_
    refine gj_step (y_move rfl) rfl rfl rfl (gj_step (y_move rfl) rfl rfl rfl (gj_step (y_move rfl) rfl rfl rfl (gj_step (y_ixR (reads_sl) Tryz.underlying23 Tryz.sizeOf3 rfl rfl (⟨by omega, by omega⟩)) rfl rfl rfl (gj_step (y_ld0 (reads_sl) Tryz.isAgg3 rfl (hx) rfl) rfl rfl rfl (?_)))))
    refine gj_step (y_callV Tryz.call143 rfl rfl (fun w hp => k_clW x w)) rfl rfl rfl ?_
    refine gj_nil ?_
    refine ej_th ?_
    refine cj_cond rfl (fun h16 => ?_) (fun h16 => ?_)
    · have h16b := h16
      try simp only [sxb] at h16
      refine cj_seq ?_
      refine cj_regionG (gj_step (y_move rfl) rfl rfl rfl (gj_step (y_assign rfl) rfl rfl rfl (gj_nil ?_)))
      refine ej_th (cj_ret (ej_blk_ret (ej_then_ret (ej_then_ret (ej_blk_ret (ej_then_ret ?_))))))
      refine ej_ret1 rfl Tryz.results101 rfl (fun w' hp => ⟨?_, hp.below⟩)
      rw [← hsk, if_neg (by rw [not_t h16b]; simp)]
    · have h16b := h16
      try simp only [sxb] at h16
      refine cj_skip (ej_blk (ej_th ?_))
      refine cj_regionG (gj_step (y_add rfl rfl (by omega)) rfl rfl rfl (gj_step (y_move rfl) rfl rfl rfl (gj_nil ?_)))
      exact ej_nx (k + 1) (by omega) ⟨by omega, by rw [← hsk, if_pos (not_f h16b)]⟩ ⟨rfl, rfl, rfl, rfl, trivial⟩
  · have h9b := h9
    try simp only [sxb] at h9
    refine cj_exit (ej_then_exit (ej_then_exit (ej_blk_hit (ej_th (cj_seq ?_)))))
    refine cj_regionG (gj_step (y_assign rfl) rfl rfl rfl (gj_nil ?_))
    refine ej_th (cj_ret ?_)
    refine ej_ret1 rfl Tryz.results101 rfl (fun w' hp => ⟨?_, hp.below⟩)
    rw [← hsk, List.drop_of_length_le (by omega)]; rfl

theorem k_ContW (l : List Int) (A : Option Addr) (c : Nat) (w : World) (hl : Rd w 1 enInt A l) : Calls Tryz.prog 76 #[.slice A l.length c, .func (.func 143) #[] #[]] w (fun e w' => e = .returned (.bool (!(l.all okv))) ∧ Grow w w') := by
  refine enter_pure (args := [.slice A l.length c, .func (.func 143) #[] #[]]) [sl (fun b => b < w.heap.size) 1 enInt A l] Tryz.func76 rfl (by rw [Tryz.ntmps76]; simp) (fun g hg => by simp at hg; subst hg; exact ⟨hl, fun _ h => h⟩) ?_
  refine cj_seq ?_
  refine cj_regionG (gj_step (y_assign rfl) rfl rfl rfl (gj_nil ?_))
  refine ej_th (cj_seq ?_)
  refine cj_regionG ?_
  refine gj_step (y_move rfl) rfl rfl rfl (gj_step (y_move rfl) rfl rfl rfl (?_))
  refine gj_step (y_call Tryz.call101 rfl (fun w hp => k_IndexW l A c w hp.rd)) rfl rfl rfl ?_
  refine gj_step (y_geq rfl rfl) rfl rfl rfl (gj_step (y_assign rfl) rfl rfl rfl (?_))
  refine gj_nil ?_
  refine ej_th (cj_ret ?_)
  refine ej_ret1 rfl Tryz.results76 rfl (fun w' hp => ⟨?_, hp.below⟩)
  rw [firstNo_all okv l]

theorem k_CheckC (res : List Int) (Ar : Option Addr) (cr : Nat) (vs : List ListV) (Av : Option Addr) (cv : Nat) (w : World) (hres : Rd w 1 enInt Ar res) (hvs : Rd w 1 encLs Av vs) (hgv : ∀ r ∈ vs, GoodL w r) : Calls Tryz.prog 118 #[.agg #[.slice Ar res.length cr, .slice Av vs.length cv]] w (fun e w' => e = .returned (.int .i64 (cloE res vs)) ∧ Grow w w') := by
  have hlr := hres.len
  have hlv := hvs.len
  refine enter_pure (args := [.agg #[.slice Ar res.length cr, .slice Av vs.length cv]]) [sl (fun b => b < w.heap.size) 1 enInt Ar res, sl (fun b => b < w.heap.size) 1 encLs Av vs] Tryz.func118 rfl (by rw [Tryz.ntmps118]; simp) (fun g hg => by simp at hg; rcases hg with rfl | rfl; exact ⟨hres, fun _ h => h⟩; exact ⟨hvs, fun _ h => h⟩) ?_
  refine cj_seq (cj_region ?_)
  refine oj_box rfl rfl rfl (fun b1 => ?_)
  refine oj_step (y_assign rfl) rfl rfl rfl ?_
  refine oj_nil ?_
  refine ej_th (cj_seq ?_)
  refine cj_regionG (gj_step (y_assign rfl) rfl rfl rfl (gj_nil ?_))
  refine ej_th (cj_seq (cj_seq ?_))
  refine cj_regionG ?_
  refine gj_step (y_fa0 fa130_0 rfl) rfl rfl rfl (gj_step (y_load1 Tryz.isAgg23 rfl rfl) rfl rfl rfl (gj_step (y_lenA Tryz.underlying23 rfl) rfl rfl rfl (?_)))
  refine gj_step (y_call Tryz.call78 rfl (fun w hp => k_within _ _ _ w)) rfl rfl rfl ?_
  refine gj_step (y_not rfl) rfl rfl rfl (gj_step (y_move rfl) rfl rfl rfl (?_))
  refine gj_g 4 11 15 rfl rfl rfl rfl (fun hg11 => gj_yes rfl rfl rfl (y_fa0 fa130_0 rfl) rfl rfl (gj_yes rfl rfl rfl (y_load1 Tryz.isAgg23 rfl rfl) rfl rfl (gj_yes rfl rfl rfl (y_move rfl) rfl rfl (gj_yes rfl rfl rfl (y_call Tryz.call76 rfl (fun w hp => k_ContW res Ar cr w hp.rd)) rfl rfl (gj_nil rfl))))) ?_
  refine gj_step (y_or rfl rfl rfl) rfl rfl rfl (gj_step (y_move rfl) rfl rfl rfl (?_))
  refine gj_g 5 17 22 rfl rfl rfl rfl (fun hg17 => gj_yes rfl rfl rfl (y_fa fa130_1 rfl) rfl rfl (gj_yes rfl rfl rfl (y_load1 Tryz.isAgg128 rfl rfl) rfl rfl (gj_yes rfl rfl rfl (y_lenA Tryz.underlying128 rfl) rfl rfl (gj_yes rfl rfl rfl (y_call Tryz.call78 rfl (fun w hp => k_within _ _ _ w)) rfl rfl (gj_yes rfl rfl rfl (y_not rfl) rfl rfl (gj_nil rfl)))))) ?_
  refine gj_step (y_or rfl rfl rfl) rfl rfl rfl (?_)
  refine gj_nil ?_
  refine ej_th ?_
  refine cj_cond rfl (fun h23 => ?_) (fun h23 => ?_)
  · have h23b := h23
    try simp only [sxb] at h23
    rw [cloH_V] at h23b
    refine cj_seq ?_
    refine cj_regionG (gj_step (y_assign rfl) rfl rfl rfl (gj_nil ?_))
    refine ej_th (cj_ret (ej_then_ret ?_))
    refine ej_ret1 rfl Tryz.results118 rfl (fun w' hp => ⟨?_, hp.below⟩)
    rw [cloE, cloB_H, not_t h23b]; rfl
  · have h23b := h23
    try simp only [sxb] at h23
    rw [cloH_V] at h23b
    refine cj_skip (ej_th (cj_seq (cj_seq ?_)))
    refine cj_regionG (gj_step (y_fa fa130_1 rfl) rfl rfl rfl (gj_step (y_load1 Tryz.isAgg128 rfl rfl) rfl rfl rfl (gj_step (y_lenA Tryz.underlying128 rfl) rfl rfl rfl (gj_step (y_move rfl) rfl rfl rfl (gj_nil ?_)))))
    refine ej_th (cj_block ?_)
    refine cj_lpic (X := Nat) [(1, _), (3, _), (25, _), (26, _)] (fun k => k ≤ vs.length ∧ (vs.drop k).all (rowOk res.length) = vs.all (rowOk res.length)) (fun k => [(27, .int .i64 k)]) (fun k => vs.length - k) 0 (⟨Nat.zero_le _, rfl⟩) ⟨rfl, rfl, rfl, rfl, rfl, trivial⟩ ?_
    rintro k ⟨hk, hsk⟩
    dsimp only [List.cons_append, List.nil_append]
    refine cj_seq ?_
    refine cj_regionG (gj_step (y_lss rfl rfl) rfl rfl rfl (gj_nil ?_))
    refine ej_th (cj_seq ?_)
    refine cj_cond rfl (fun h28 => ?_) (fun h28 => ?_)
    · have h28b := h28
      try simp only [sxb] at h28
      obtain ⟨r, hr⟩ : ∃ r, vs[k]? = some r := ⟨_, List.getElem?_eq_getElem (by omega)⟩
      have hgr := hgv r (List.mem_of_getElem? hr)
      have hrl := hgr.len
      refine cj_rd hgr (fun _ h => h) ?_
      rw [all_drop (rowOk res.length) vs k r hr] at hsk
      refine cj_skip (ej_th (cj_seq (cj_block (cj_seq ?_))))
      refine cj_regionG (gj_step (y_ixR (reads_sl) Tryz.underlying128 Tryz.sizeOf23 rfl rfl (⟨by omega, by omega⟩)) rfl rfl rfl (gj_step (y_ld0 (reads_sl) Tryz.isAgg23 rfl (hr) rfl) rfl rfl rfl (gj_step (y_assign rfl) rfl rfl rfl (gj_nil ?_))))
      refine ej_th (cj_seq ?_)
      refine cj_regionG ?_
      refine gj_step (y_move rfl) rfl rfl rfl (gj_step (y_lenA Tryz.underlying23 rfl) rfl rfl rfl (gj_step (y_fa0 fa130_0 rfl) rfl rfl rfl (gj_step (y_load1 Tryz.isAgg23 rfl rfl) rfl rfl rfl (gj_step (y_lenA Tryz.underlying23 rfl) rfl rfl rfl (gj_step (y_neq rfl rfl) rfl rfl rfl (gj_step (y_move rfl) rfl rfl rfl (?_)))))))
      refine gj_g 3 37 40 rfl rfl rfl rfl (fun hg37 => gj_yes rfl rfl rfl (y_move rfl) rfl rfl (gj_yes rfl rfl rfl (y_move rfl) rfl rfl (gj_yes rfl rfl rfl (y_call Tryz.call76 rfl (fun w hp => k_ContW r.l r.A r.c w hp.rd)) rfl rfl (gj_nil rfl)))) ?_
      refine gj_step (y_or rfl rfl rfl) rfl rfl rfl (?_)
      refine gj_nil ?_
      refine ej_th ?_
      refine cj_cond rfl (fun h41 => ?_) (fun h41 => ?_)
      · have h41b := h41
        try simp only [sxb] at h41
        rw [row_V] at h41b
        refine cj_seq ?_
        refine cj_regionG (gj_step (y_assign rfl) rfl rfl rfl (gj_nil ?_))
        refine ej_th (cj_ret (ej_blk_ret (ej_then_ret (ej_then_ret (ej_blk_ret (ej_then_ret ?_))))))
        refine ej_ret1 rfl Tryz.results118 rfl (fun w' hp => ⟨?_, hp.below⟩)
        rw [cloE, cloB_H, ← hsk, not_t h41b]; simp
      · have h41b := h41
        try simp only [sxb] at h41
        rw [row_V] at h41b
        refine cj_skip (ej_blk (ej_th ?_))
        refine cj_regionG (gj_step (y_add rfl rfl (by omega)) rfl rfl rfl (gj_step (y_move rfl) rfl rfl rfl (gj_nil ?_)))
        exact ej_nx (k + 1) (by omega) ⟨by omega, by rw [← hsk, not_f h41b, Bool.true_and]⟩ ⟨rfl, rfl, rfl, rfl, rfl, trivial⟩
    · have h28b := h28
      try simp only [sxb] at h28
      refine cj_exit (ej_then_exit (ej_then_exit (ej_blk_hit (ej_th (cj_seq ?_)))))
      refine cj_regionG (gj_step (y_assign rfl) rfl rfl rfl (gj_nil ?_))
      refine ej_th (cj_ret ?_)
      refine ej_ret1 rfl Tryz.results118 rfl (fun w' hp => ⟨?_, hp.below⟩)
      rw [cloE, cloB_H, not_f h23b, ← hsk, List.drop_of_length_le (by omega)]; rfl

theorem k_worth (res : List Int) (Ar : Option Addr) (cr : Nat) (vs : List ListV) (Av : Option Addr) (cv : Nat) (to : List Int) (At : Option Addr) (ct : Nat) (w : World) (hres : Rd w 1 enInt Ar res) (hvs : Rd w 1 encLs Av vs) (hgv : ∀ r ∈ vs, GoodL w r) (hto : Rd w 1 enInt At to) (hco : CloOk res (rowsV vs)) (hok : OkL res.length to) (htl : to.length ≤ vs.length) : Calls Tryz.prog 145 #[.agg #[.slice Ar res.length cr, .slice Av vs.length cv], .slice At to.length ct] w (fun e w' => e = .returned (.int .i64 (worthP res (rowsV vs) to)) ∧ Grow w w') := by
  have hlr := hres.len
  have hlv := hvs.len
  have hlt := hto.len
  have h6 := hco.m
  have h6v := hco.n
  rw [rowsV_len] at h6v
  refine enter_pure (args := [.agg #[.slice Ar res.length cr, .slice Av vs.length cv], .slice At to.length ct]) [sl (fun b => b < w.heap.size) 1 enInt Ar res, sl (fun b => b < w.heap.size) 1 encLs Av vs, sl (fun b => b < w.heap.size) 1 enInt At to] Tryz.func145 rfl (by rw [Tryz.ntmps145]; simp) (fun g hg => by simp at hg; rcases hg with rfl | rfl | rfl; exact ⟨hres, fun _ h => h⟩; exact ⟨hvs, fun _ h => h⟩; exact ⟨hto, fun _ h => h⟩) ?_
  refine cj_seq (cj_region ?_)
  refine oj_box rfl rfl rfl (fun b2 => ?_)
  refine oj_step (y_assign rfl) rfl rfl rfl ?_
  refine oj_nil ?_
  refine ej_th (cj_seq ?_)
  refine cj_regionG (gj_step (y_assign rfl) rfl rfl rfl (gj_nil ?_))
  refine ej_th (cj_seq (cj_seq ?_))
  refine cj_regionG (gj_step (y_fa0 fa226_0 rfl) rfl rfl rfl (gj_step (y_fa0 fa130_0 rfl) rfl rfl rfl (gj_step (y_load1 Tryz.isAgg23 rfl rfl) rfl rfl rfl (gj_step (y_lenA Tryz.underlying23 rfl) rfl rfl rfl (gj_step (y_move rfl) rfl rfl rfl (gj_nil ?_))))))
  refine ej_th (cj_block ?_)
  refine cj_lpic (X := Nat × Int) [(1, _), (2, _), (4, _), (12, _), (13, _)] (fun ⟨k, n⟩ => k ≤ res.length ∧ (0 ≤ n ∧ n ≤ 100000 * k) ∧ wFree to (res.drop k) k n = wFree to res 0 0) (fun ⟨k, n⟩ => [(5, .int .i64 n), (14, .int .i64 k)]) (fun ⟨k, n⟩ => res.length - k) (0, 0) (⟨Nat.zero_le _, by omega, rfl⟩) ⟨rfl, rfl, rfl, rfl, rfl, rfl, rfl, trivial⟩ ?_
  rintro ⟨k, n⟩ ⟨hk, hnb, hsk⟩
  dsimp only [List.cons_append, List.nil_append]
  refine cj_seq ?_
  refine cj_regionG (gj_step (y_lss rfl rfl) rfl rfl rfl (gj_nil ?_))
  refine ej_th (cj_seq ?_)
  refine cj_cond rfl (fun h15 => ?_) (fun h15 => ?_)
  · have h15b := h15
    try simp only [sxb] at h15
    obtain ⟨x, hx⟩ : ∃ x, res[k]? = some x := ⟨_, List.getElem?_eq_getElem (by omega)⟩
    have hxb := hco.res x (List.mem_of_getElem? hx)
    rw [wFree_drop to res k x n hx] at hsk
    refine cj_skip (ej_th (cj_seq (cj_block (cj_seq ?_))))
    refine cj_regionG (gj_step (y_move rfl) rfl rfl rfl (gj_step (y_ixR (reads_sl) Tryz.underlying23 Tryz.sizeOf3 rfl rfl (⟨by omega, by omega⟩)) rfl rfl rfl (gj_step (y_ld0 (reads_sl) Tryz.isAgg3 rfl (hx) rfl) rfl rfl rfl (gj_step (y_assign rfl) rfl rfl rfl (gj_step (y_assign rfl) rfl rfl rfl (gj_nil ?_))))))
    refine ej_th (cj_seq ?_)
    refine cj_regionG ?_
    refine gj_step (y_move rfl) rfl rfl rfl (gj_step (y_move rfl) rfl rfl rfl (?_))
    refine gj_step (y_call Tryz.call68 rfl (fun w hp => k_ContI to At ct (k : Nat) w hp.rd)) rfl rfl rfl ?_
    refine gj_step (y_not rfl) rfl rfl rfl (?_)
    refine gj_nil ?_
    refine ej_th ?_
    refine cj_cond rfl (fun h22 => ?_) (fun h22 => ?_)
    · have h22b := h22
      try simp only [sxb] at h22
      rw [if_neg (by rw [not_t h22b]; simp)] at hsk
      refine cj_regionG (gj_step (y_move rfl) rfl rfl rfl (gj_step (y_move rfl) rfl rfl rfl (gj_step (y_add rfl rfl (by omega)) rfl rfl rfl (gj_step (y_assign rfl) rfl rfl rfl (gj_nil ?_)))))
      refine ej_blk (ej_th ?_)
      refine cj_regionG (gj_step (y_add rfl rfl (by omega)) rfl rfl rfl (gj_step (y_move rfl) rfl rfl rfl (gj_nil ?_)))
      exact ej_nx (k + 1, n + x) (by simp only; omega) ⟨by first | omega | (simp only; omega), by first | omega | (simp only; omega), hsk⟩ ⟨rfl, rfl, rfl, rfl, rfl, rfl, rfl, trivial⟩
    · have h22b := h22
      try simp only [sxb] at h22
      rw [if_pos (not_f h22b)] at hsk
      refine cj_skip (ej_blk (ej_th ?_))
      refine cj_regionG (gj_step (y_add rfl rfl (by omega)) rfl rfl rfl (gj_step (y_move rfl) rfl rfl rfl (gj_nil ?_)))
      exact ej_nx (k + 1, n) (by simp only; omega) ⟨by first | omega | (simp only; omega), by first | omega | (simp only; omega), hsk⟩ ⟨rfl, rfl, rfl, rfl, rfl, rfl, rfl, trivial⟩
  · have h15b := h15
    try simp only [sxb] at h15
    rw [List.drop_of_length_le (by omega)] at hsk
    have hn : n = wFree to res 0 0 := hsk
    subst hn
    refine cj_exit (ej_then_exit (ej_then_exit (ej_blk_hit (ej_th (cj_seq (cj_seq ?_))))))
    refine cj_regionG (gj_step (y_move rfl) rfl rfl rfl (gj_step (y_lenA Tryz.underlying23 rfl) rfl rfl rfl (gj_step (y_move rfl) rfl rfl rfl (gj_nil ?_))))
    refine ej_th (cj_block ?_)
    refine cj_lpic (X := Nat × Int) [(2, _), (4, _), (27, _), (28, _)] (fun ⟨i, n2⟩ => i ≤ to.length ∧ (0 ≤ n2 ∧ n2 ≤ 600000 + 100000 * i) ∧ wGot (rowsV vs) (to.drop i) i n2 = worthP res (rowsV vs) to) (fun ⟨i, n2⟩ => [(5, .int .i64 n2), (29, .int .i64 i)]) (fun ⟨i, n2⟩ => to.length - i) (0, wFree to res 0 0) (⟨Nat.zero_le _, by first | omega | (simp only; omega), rfl⟩) ⟨rfl, rfl, rfl, rfl, rfl, rfl, trivial⟩ ?_
    rintro ⟨i, n2⟩ ⟨hi, hnb2, hsj⟩
    dsimp only [List.cons_append, List.nil_append]
    refine cj_seq ?_
    refine cj_regionG (gj_step (y_lss rfl rfl) rfl rfl rfl (gj_nil ?_))
    refine ej_th (cj_seq ?_)
    refine cj_cond rfl (fun h30 => ?_) (fun h30 => ?_)
    · have h30b := h30
      try simp only [sxb] at h30
      obtain ⟨x, hx⟩ : ∃ x, to[i]? = some x := ⟨_, List.getElem?_eq_getElem (by omega)⟩
      rw [wGot_drop (rowsV vs) to i x n2 hx] at hsj
      have hxr := hok.rng x (List.mem_of_getElem? hx)
      refine cj_skip (ej_th (cj_seq (cj_block (cj_seq ?_))))
      refine cj_regionG (gj_step (y_move rfl) rfl rfl rfl (gj_step (y_ixR (reads_sl) Tryz.underlying23 Tryz.sizeOf3 rfl rfl (⟨by omega, by omega⟩)) rfl rfl rfl (gj_step (y_ld0 (reads_sl) Tryz.isAgg3 rfl (hx) rfl) rfl rfl rfl (gj_step (y_assign rfl) rfl rfl rfl (gj_step (y_assign rfl) rfl rfl rfl (gj_nil ?_))))))
      refine ej_th (cj_seq ?_)
      refine cj_regionG (gj_step (y_move rfl) rfl rfl rfl (gj_step (y_geq rfl rfl) rfl rfl rfl (gj_nil ?_)))
      refine ej_th ?_
      refine cj_cond rfl (fun h35 => ?_) (fun h35 => ?_)
      · have h35b := h35
        try simp only [sxb] at h35
        obtain ⟨r, hr⟩ : ∃ r, vs[i]? = some r := ⟨_, List.getElem?_eq_getElem (by omega)⟩
        have hgr := hgv r (List.mem_of_getElem? hr)
        have hrl := hgr.len
        have hrm : r.l.length = res.length := hco.len _ (List.mem_of_getElem? (rowsV_get hr))
        obtain ⟨v, hv⟩ : ∃ v, r.l[x.toNat]? = some v := ⟨_, List.getElem?_eq_getElem (by omega)⟩
        have hvb := hco.val _ (List.mem_of_getElem? (rowsV_get hr)) v (List.mem_of_getElem? hv)
        rw [if_pos h35, vv_get hr hv] at hsj
        refine cj_rd hgr (fun _ h => h) ?_
        refine cj_regionG (gj_step (y_move rfl) rfl rfl rfl (gj_step (y_fa0 fa226_0 rfl) rfl rfl rfl (gj_step (y_fa fa130_1 rfl) rfl rfl rfl (gj_step (y_load1 Tryz.isAgg128 rfl rfl) rfl rfl rfl (gj_step (y_move rfl) rfl rfl rfl (gj_step (y_ixR (reads_sl) Tryz.underlying128 Tryz.sizeOf23 rfl rfl (⟨by omega, by omega⟩)) rfl rfl rfl (gj_step (y_ld0 (reads_sl) Tryz.isAgg23 rfl (hr) rfl) rfl rfl rfl (gj_step (y_move rfl) rfl rfl rfl (gj_step (y_ixR (reads_sl) Tryz.underlying23 Tryz.sizeOf3 rfl rfl (⟨by omega, by omega⟩)) rfl rfl rfl (gj_step (y_ld0 (reads_sl) Tryz.isAgg3 rfl (hv) rfl) rfl rfl rfl (gj_step (y_add rfl rfl (by omega)) rfl rfl rfl (gj_step (y_assign rfl) rfl rfl rfl (gj_nil ?_)))))))))))))
        refine ej_blk (ej_th ?_)
        refine cj_regionG (gj_step (y_add rfl rfl (by omega)) rfl rfl rfl (gj_step (y_move rfl) rfl rfl rfl (gj_nil ?_)))
        exact ej_nx (i + 1, n2 + v) (by simp only; omega) ⟨by first | omega | (simp only; omega), by first | omega | (simp only; omega), hsj⟩ ⟨rfl, rfl, rfl, rfl, rfl, rfl, trivial⟩
      · have h35b := h35
        try simp only [sxb] at h35
        rw [if_neg (by omega)] at hsj
        refine cj_skip (ej_blk (ej_th ?_))
        refine cj_regionG (gj_step (y_add rfl rfl (by omega)) rfl rfl rfl (gj_step (y_move rfl) rfl rfl rfl (gj_nil ?_)))
        exact ej_nx (i + 1, n2) (by simp only; omega) ⟨by first | omega | (simp only; omega), by first | omega | (simp only; omega), hsj⟩ ⟨rfl, rfl, rfl, rfl, rfl, rfl, trivial⟩
    · have h30b := h30
      try simp only [sxb] at h30
      refine cj_exit (ej_then_exit (ej_then_exit (ej_blk_hit (ej_th (cj_seq ?_)))))
      refine cj_regionG (gj_step (y_move rfl) rfl rfl rfl (gj_step (y_assign rfl) rfl rfl rfl (gj_nil ?_)))
      refine ej_th (cj_ret ?_)
      refine ej_ret1 rfl Tryz.results145 rfl (fun w' hp => ⟨?_, hp.below⟩)
      rw [List.drop_of_length_le (show to.length ≤ i by omega)] at hsj
      rw [← hsj]; rfl

end Go.Proofs.YtppfniekcgnmjaaGreat.Au
namespace Go.Proofs.YtppfniekcgnmjaaGreat.Au
open Go.Sx Go.RowKit
set_option maxRecDepth 20000
theorem el23 : ElemIs Tryz.prog 23 3 1 8 := ⟨⟨_, (.int .i64 0), Tryz.underlying23, Tryz.type3, by kernel_rfl, by kernel_rfl, by kernel_rfl, by kernel_rfl, by decide⟩⟩
end Go.Proofs.YtppfniekcgnmjaaGreat.Au
namespace Go.Proofs.YtppfniekcgnmjaaGreat.Au
open Go.Sx Go.RowKit Am
set_option maxRecDepth 20000
theorem k_CloneI (l : List Int) (A : Option Addr) (c : Nat) (w : World) (hl : Rd w 1 enInt A l) (h8 : l.length ≤ 1000000) : Calls Tryz.prog 146 #[.slice A l.length c] w (fun e w' => ∃ B d, e = .returned (.slice B l.length d) ∧ Grow w w' ∧ (ow 3 1 enInt B d l).P w' ∧ ∀ b, (ow 3 1 enInt B d l).fp b → w.heap.size ≤ b) := by
  refine enter_pure (args := [.slice A l.length c]) [sl (fun b => b < w.heap.size) 1 enInt A l] Tryz.func146 rfl (by rw [Tryz.ntmps146]; simp) (fun g hg => by simp at hg; subst hg; exact ⟨hl, fun _ h => h⟩) ?_
  refine cj_seq ?_
  refine cj_regionG (gj_step (y_assign rfl) rfl rfl rfl (gj_nil ?_))
  refine ej_th (cj_seq (cj_seq ?_))
  refine cj_regionG (gj_step (y_move rfl) rfl rfl rfl (gj_step (y_eqlNil Tryz.underlying23 rfl rfl) rfl rfl rfl (gj_nil ?_)))
  refine ej_th ?_
  refine cj_cond rfl (fun h4 => ?_) (fun h4 => ?_)
  · have h4b := h4
    try simp only [sxb] at h4
    have hl0 : l = [] := by
      cases l with
      | nil => rfl
      | cons x r => exact absurd (by cases A with | none => rfl | some a => cases h4) (hl.ne (by simp))
    refine cj_seq ?_
    refine cj_regionG (gj_step (y_assign rfl) rfl rfl rfl (gj_nil ?_))
    refine ej_th (cj_ret (ej_then_ret ?_))
    subst hl0
    exact ej_ret1 rfl Tryz.results146 rfl (fun w' hp => ⟨none, 0, rfl, hp.below, ow_nil 3 1 enInt w', fun b hb => by cases hb⟩)
  · have h4b := h4
    try simp only [sxb] at h4
    refine cj_skip (ej_th (cj_seq (cj_region ?_)))
    refine oj_buildSlice (cs := []) [] Tryz.underlying23 Tryz.sizeOf3 Tryz.zeroValue3 rfl rfl (by kernel_rfl) (by kernel_rfl) rfl (fun b5 => ?_)
    refine oj_litOw (b := b5) (e := 3) (c := 0) (sz := 1) (enc := enInt) [] rfl rfl rfl (by unfold maxLen; simp) ?_
    refine oj_step (y_move rfl) rfl rfl rfl ?_
    refine oj_append (xs := ([] : List Int)) (c := 0) el23 (fun _ => rfl) enInt_one rfl rfl rfl (reads_sl) (by unfold maxLen; simp only [List.length_nil]; omega) (by simp only [List.length_nil]; omega) rfl (fun A7 c7 => ?_)
    refine oj_step (y_assign rfl) rfl rfl rfl ?_
    refine oj_nil ?_
    refine ej_th (cj_ret ?_)
    exact ej_ret1 rfl Tryz.results146 rfl (fun w' hp => ⟨A7, c7, by simp, hp.below, by have h9 := hp.resO (A := A7) (e := 3) (c := c7) (sz := 1) (enc := enInt) (xs := [] ++ l); simpa using h9⟩)

set_option maxHeartbeats 1000000 in
theorem k_next1 (res : List Int) (Ar : Option Addr) (cr : Nat) (vs : List ListV) (Av : Option Addr) (cv : Nat) (fpr fpv fpw : Nat → Prop) (bc bm bt bn : Nat) (d : Nat) (so : List Int) (A : Option Addr) (c : Nat) (s : List Int × Int) (At : Option Addr) (ct : Nat) (w : World) (hco : CloOk res (rowsV vs)) (hd : so.length + d = vs.length) (hok : OkL res.length so) (hO : ∀ f ∈ [ownB bm (cellsB 3 [.int .i64 s.2]), ownB bt (cellsB 23 [.slice At s.1.length ct]), ow 3 1 enInt At ct s.1, ow 3 1 enInt A c so], f.P w ∧ ∀ b, f.fp b → b < w.heap.size) (hap : [ownB bm (cellsB 3 [.int .i64 s.2]), ownB bt (cellsB 23 [.slice At s.1.length ct]), ow 3 1 enInt At ct s.1, ow 3 1 enInt A c so].Pairwise (fun f g => ∀ b, f.fp b → ¬ g.fp b)) (hS : ∀ g ∈ [ownB bc (cellsB 226 [.slice Ar res.length cr, .slice Av vs.length cv]), ownB bn (cellsB 258 [.func (.func 144) #[] #[.pointer (some ⟨bc, 0, none⟩), .pointer (some ⟨bm, 0, none⟩), .pointer (some ⟨bt, 0, none⟩), .pointer (some ⟨bn, 0, none⟩)]]), sl fpr 1 enInt Ar res, sl fpv 1 encLs Av vs, rwF fpw vs], g.P w ∧ ∀ i, g.fp i → i < w.heap.size ∧ ∀ f ∈ [ownB bm (cellsB 3 [.int .i64 s.2]), ownB bt (cellsB 23 [.slice At s.1.length ct]), ow 3 1 enInt At ct s.1, ow 3 1 enInt A c so], ¬ f.fp i) (ih : ∀ d1, d1 + 1 = d → ∀ (so : List Int) (A : Option Addr) (c : Nat) (s : List Int × Int) (At : Option Addr) (ct : Nat) (w : World) (_ : so.length + d1 = vs.length) (_ : OkL res.length so) (_ : ∀ f ∈ [ownB bm (cellsB 3 [.int .i64 s.2]), ownB bt (cellsB 23 [.slice At s.1.length ct]), ow 3 1 enInt At ct s.1, ow 3 1 enInt A c so], f.P w ∧ ∀ b, f.fp b → b < w.heap.size) (_ : [ownB bm (cellsB 3 [.int .i64 s.2]), ownB bt (cellsB 23 [.slice At s.1.length ct]), ow 3 1 enInt At ct s.1, ow 3 1 enInt A c so].Pairwise (fun f g => ∀ b, f.fp b → ¬ g.fp b)) (_ : ∀ g ∈ [ownB bc (cellsB 226 [.slice Ar res.length cr, .slice Av vs.length cv]), ownB bn (cellsB 258 [.func (.func 144) #[] #[.pointer (some ⟨bc, 0, none⟩), .pointer (some ⟨bm, 0, none⟩), .pointer (some ⟨bt, 0, none⟩), .pointer (some ⟨bn, 0, none⟩)]]), sl fpr 1 enInt Ar res, sl fpv 1 encLs Av vs, rwF fpw vs], g.P w ∧ ∀ i, g.fp i → i < w.heap.size ∧ ∀ f ∈ [ownB bm (cellsB 3 [.int .i64 s.2]), ownB bt (cellsB 23 [.slice At s.1.length ct]), ow 3 1 enInt At ct s.1, ow 3 1 enInt A c so], ¬ f.fp i), Calls Tryz.prog 144 #[.slice A so.length c, .pointer (some ⟨bc, 0, none⟩), .pointer (some ⟨bm, 0, none⟩), .pointer (some ⟨bt, 0, none⟩), .pointer (some ⟨bn, 0, none⟩)] w (fun e w' => ∃ z : Option Addr × Nat, e = .returned (.tuple #[]) ∧ Giv [ownB bm (cellsB 3 [.int .i64 s.2]), ownB bt (cellsB 23 [.slice At s.1.length ct]), ow 3 1 enInt At ct s.1, ow 3 1 enInt A c so] w w' [ownB bm (cellsB 3 [.int .i64 (goB (worthP res (rowsV vs)) res.length d1 so s).2]), ownB bt (cellsB 23 [.slice z.1 (goB (worthP res (rowsV vs)) res.length d1 so s).1.length z.2]), ow 3 1 enInt z.1 z.2 (goB (worthP res (rowsV vs)) res.length d1 so s).1, ow 3 1 enInt A c so])) : Calls Tryz.prog 144 #[.slice A so.length c, .pointer (some ⟨bc, 0, none⟩), .pointer (some ⟨bm, 0, none⟩), .pointer (some ⟨bt, 0, none⟩), .pointer (some ⟨bn, 0, none⟩)] w (fun e w' => ∃ z : Option Addr × Nat, e = .returned (.tuple #[]) ∧ Giv [ownB bm (cellsB 3 [.int .i64 s.2]), ownB bt (cellsB 23 [.slice At s.1.length ct]), ow 3 1 enInt At ct s.1, ow 3 1 enInt A c so] w w' [ownB bm (cellsB 3 [.int .i64 (goB (worthP res (rowsV vs)) res.length d so s).2]), ownB bt (cellsB 23 [.slice z.1 (goB (worthP res (rowsV vs)) res.length d so s).1.length z.2]), ow 3 1 enInt z.1 z.2 (goB (worthP res (rowsV vs)) res.length d so s).1, ow 3 1 enInt A c so]) := by
  have h6v := hco.n
  rw [rowsV_len] at h6v
  have h6m := hco.m
  have hAn : A = none → so = [] ∧ c = 0 := fun e => by subst e; exact ow_none (hO _ (List.mem_cons_of_mem _ (List.mem_cons_of_mem _ (List.mem_cons_of_mem _ (List.mem_cons_self ..))))).1
  refine enterO (args := [.slice A so.length c, .pointer (some ⟨bc, 0, none⟩), .pointer (some ⟨bm, 0, none⟩), .pointer (some ⟨bt, 0, none⟩), .pointer (some ⟨bn, 0, none⟩)]) [ownB bm (cellsB 3 [.int .i64 s.2]), ownB bt (cellsB 23 [.slice At s.1.length ct]), ow 3 1 enInt At ct s.1, ow 3 1 enInt A c so] [ownB bc (cellsB 226 [.slice Ar res.length cr, .slice Av vs.length cv]), ownB bn (cellsB 258 [.func (.func 144) #[] #[.pointer (some ⟨bc, 0, none⟩), .pointer (some ⟨bm, 0, none⟩), .pointer (some ⟨bt, 0, none⟩), .pointer (some ⟨bn, 0, none⟩)]]), sl fpr 1 enInt Ar res, sl fpv 1 encLs Av vs, rwF fpw vs] Tryz.func144 rfl (by rw [Tryz.ntmps144]; simp) hO hap hS ?_
  refine cj_seq (cj_seq ?_)
  refine cj_regionG (gj_step (y_move rfl) rfl rfl rfl (gj_step (y_lenA Tryz.underlying23 rfl) rfl rfl rfl (gj_step (y_fa0 fa226_0 rfl) rfl rfl rfl (gj_step (y_fa fa130_1 rfl) rfl rfl rfl (gj_step (y_loadS1 Tryz.isAgg128 rfl rfl) rfl rfl rfl (gj_step (y_lenA Tryz.underlying128 rfl) rfl rfl rfl (gj_step (y_eql rfl rfl) rfl rfl rfl (gj_nil ?_))))))))
  refine ej_th ?_
  refine cj_cond rfl (fun h14 => ?_) (fun h14 => ?_)
  · have h14b := h14
    try simp only [sxb] at h14
    have hd0 : d = 0 := by omega
    subst hd0
    refine cj_seq (cj_seq ?_)
    refine cj_regionG ?_
    refine gj_step (y_loadSN Tryz.isAgg226 Tryz.sizeOf226 rfl) rfl rfl rfl (gj_step (y_move rfl) rfl rfl rfl (?_))
    refine gj_step (y_call Tryz.call145 rfl (fun w hp => k_worth res Ar cr vs Av cv so A c w hp.rd hp.rd (rw_good (fp := fpw) hp (.tail _ (.tail _ (.tail _ (.tail _ (.head _)))))) (hp.rdO (fun _ => rfl) (by unfold maxLen; omega)) hco hok (by omega))) rfl rfl rfl ?_
    refine gj_step (y_assign rfl) rfl rfl rfl (?_)
    refine gj_nil ?_
    refine ej_th (cj_seq ?_)
    refine cj_regionG (gj_step (y_move rfl) rfl rfl rfl (gj_step (y_load1 Tryz.isAgg3 rfl rfl) rfl rfl rfl (gj_step (y_gtr rfl rfl) rfl rfl rfl (gj_nil ?_))))
    refine ej_th ?_
    refine cj_cond rfl (fun h20 => ?_) (fun h20 => ?_)
    · have h20b := h20
      try simp only [sxb] at h20
      have hs2 : goB (worthP res (rowsV vs)) res.length 0 so s = (so, worthP res (rowsV vs) so) := by rw [goB, bestS, if_pos h20]
      refine cj_region ?_
      refine oj_step (y_move rfl) rfl rfl rfl ?_
      refine oj_callO (fun B d => .slice B so.length d) 3 1 enInt so Tryz.call146 rfl (fun w hp => k_CloneI so A c w (hp.rdO (fun _ => rfl) (by unfold maxLen; omega)) (by omega)) rfl (fun B22 c22 => ?_)
      refine oj_step (y_move rfl) rfl rfl rfl ?_
      refine oj_store rfl rfl rfl rfl Tryz.sizeOf23 rfl ?_
      refine oj_store rfl rfl rfl rfl Tryz.sizeOf3 rfl ?_
      refine oj_nil ?_
      refine ej_th (cj_ret (ej_then_ret ?_))
      exact ej_ret0 rfl Tryz.results144 (fun w' hp => ⟨(B22, c22), rfl, by rw [hs2]; exact hp.givT _⟩)
    · have h20b := h20
      try simp only [sxb] at h20
      have hs2 : goB (worthP res (rowsV vs)) res.length 0 so s = s := by rw [goB, bestS, if_neg (by omega)]
      refine cj_skip (ej_th (cj_ret (ej_then_ret ?_)))
      exact ej_ret0 rfl Tryz.results144 (fun w' hp => ⟨(At, ct), rfl, by rw [hs2]; exact hp.givT _⟩)
  · have h14b := h14
    try simp only [sxb] at h14
    obtain ⟨d1, hd1⟩ : ∃ d1, d1 + 1 = d := ⟨d - 1, by omega⟩
    subst hd1
    have hd1 : d1 + 1 = d1 + 1 := rfl
    refine cj_skip (ej_th (cj_seq ?_))
    refine cj_regionG (gj_step (y_assign rfl) rfl rfl rfl (gj_nil ?_))
    refine ej_th (cj_block ?_)
    refine cj_lpi (X := Nat × (List Int × Int) × Option Addr × Nat) [(0, _), (1, _), (4, _)] (fun ⟨t, s2, At2, ct2⟩ => t ≤ res.length + 1 ∧ goK (worthP res (rowsV vs)) res.length d1 so t s2 = goB (worthP res (rowsV vs)) res.length (d1 + 1) so s) (fun ⟨t, s2, At2, ct2⟩ => [(7, .int .i64 ((t : Int) - 1))]) (fun ⟨t, s2, At2, ct2⟩ => [ownB bm (cellsB 3 [.int .i64 s2.2]), ownB bt (cellsB 23 [.slice At2 s2.1.length ct2]), ow 3 1 enInt At2 ct2 s2.1, ow 3 1 enInt A c so]) (fun ⟨t, s2, At2, ct2⟩ => [ownB bc (cellsB 226 [.slice Ar res.length cr, .slice Av vs.length cv]), ownB bn (cellsB 258 [.func (.func 144) #[] #[.pointer (some ⟨bc, 0, none⟩), .pointer (some ⟨bm, 0, none⟩), .pointer (some ⟨bt, 0, none⟩), .pointer (some ⟨bn, 0, none⟩)]]), sl fpr 1 enInt Ar res, sl fpv 1 encLs Av vs, rwF fpw vs]) (fun ⟨t, s2, At2, ct2⟩ => res.length + 1 - t) (0, s, At, ct) (⟨Nat.zero_le _, rfl⟩) ⟨rfl, rfl, rfl, rfl, trivial⟩ ?_
    rintro ⟨t, s2, At2, ct2⟩ ⟨ht, hsk⟩
    dsimp only [List.cons_append, List.nil_append]
    refine cj_seq (cj_seq ?_)
    refine cj_regionG (gj_step (y_move rfl) rfl rfl rfl (gj_step (y_fa0 fa226_0 rfl) rfl rfl rfl (gj_step (y_fa0 fa130_0 rfl) rfl rfl rfl (gj_step (y_loadS1 Tryz.isAgg23 rfl rfl) rfl rfl rfl (gj_step (y_lenA Tryz.underlying23 rfl) rfl rfl rfl (gj_step (y_lss rfl rfl) rfl rfl rfl (gj_nil ?_)))))))
    refine ej_th ?_
    refine cj_cond rfl (fun h29 => ?_) (fun h29 => ?_)
    · have h29b := h29
      try simp only [sxb] at h29
      rw [goK_s (by omega)] at hsk
      refine cj_skip (ej_th (cj_seq (cj_block (cj_seq ?_))))
      refine cj_regionG ?_
      refine gj_step (y_move rfl) rfl rfl rfl (gj_step (y_lss rfl rfl) rfl rfl rfl (gj_step (y_move rfl) rfl rfl rfl (?_)))
      refine gj_g 4 34 38 rfl rfl rfl rfl (fun hg34 => gj_yes rfl rfl rfl (y_move rfl) rfl rfl (gj_yes rfl rfl rfl (y_move rfl) rfl rfl (gj_yes rfl rfl rfl (y_call Tryz.call68 rfl (fun w hp => k_ContI so A c ((t : Int) - 1) w (hp.rdO (fun _ => rfl) (by unfold maxLen; omega)))) rfl rfl (gj_yes rfl rfl rfl (y_not rfl) rfl rfl (gj_nil rfl))))) ?_
      refine gj_step (y_or rfl rfl rfl) rfl rfl rfl (?_)
      refine gj_nil ?_
      refine ej_th ?_
      refine cj_cond rfl (fun h39 => ?_) (fun h39 => ?_)
      · have h39b := h39
        try simp only [sxb] at h39
        have hkc : ((t : Int) - 1) < 0 ∨ so.contains ((t : Int) - 1) = false := by simpa using h39b
        have hokk : OkL res.length (so ++ [((t : Int) - 1)]) := OkL.snoc.2 ⟨hok, by omega, fun h0 hm => by
          rcases hkc with h | h
          · omega
          · rw [List.contains_iff_mem.2 hm] at h; cases h⟩
        rw [stK, if_pos hkc] at hsk
        refine cj_plan 6 (by kernel_rfl) (by kernel_rfl) ?_
        refine pl_y 0 rfl (y_loadS1 Tryz.isAgg258 rfl rfl) rfl rfl rfl rfl (by kernel_rfl) ?_
        refine pl_y 1 rfl (y_move rfl) rfl rfl rfl rfl (by kernel_rfl) ?_
        refine pl_y 2 rfl (y_move rfl) rfl rfl rfl rfl (by kernel_rfl) ?_
        refine pl_w1 3 (by kernel_rfl) rfl rfl (pl_fire rfl rfl rfl (by kernel_rfl) ?_)
        refine oj_buildSlice (cs := [.int .i64 ((t : Int) - 1)]) [.int .i64 0] Tryz.underlying23 Tryz.sizeOf3 Tryz.zeroValue3 rfl rfl (by kernel_rfl) (by kernel_rfl) rfl (fun b43 => ?_)
        refine oj_nil ?_
        refine ej_pl (lt_w (by kernel_rfl) (lt_y (y_move rfl) rfl (lt_y (y_loadS1 Tryz.isAgg258 rfl rfl) rfl (lt_nil)))) ?_
        refine pl_w1 4 (by kernel_rfl) rfl rfl (pl_fire rfl rfl rfl (by kernel_rfl) ?_)
        refine oj_appendK (y := ((t : Int) - 1)) el23 (fun _ => rfl) enInt_one rfl rfl (reads_lit [((t : Int) - 1)] (fun _ => rfl) rfl) (by unfold maxLen; omega) (by omega) rfl (fun hroom => ?_) (fun A44 c44 => ?_)
        · refine oj_nil ?_
          refine ej_pl (lt_y (y_move rfl) rfl (lt_w (by kernel_rfl) (lt_y (y_loadS1 Tryz.isAgg258 rfl rfl) rfl (lt_nil)))) ?_
          refine pl_w1 5 (by kernel_rfl) rfl rfl (pl_fire rfl rfl rfl (by kernel_rfl) ?_)
          refine oj_callL (X := Option Addr × Nat) (fun _ => .tuple #[]) [ownB bm (cellsB 3 [.int .i64 s2.2]), ownB bt (cellsB 23 [.slice At2 s2.1.length ct2]), ow 3 1 enInt At2 ct2 s2.1, ow 3 1 enInt A c (so ++ [((t : Int) - 1)])] (fun z => [ownB bm (cellsB 3 [.int .i64 (goB (worthP res (rowsV vs)) res.length d1 (so ++ [((t : Int) - 1)]) s2).2]), ownB bt (cellsB 23 [.slice z.1 (goB (worthP res (rowsV vs)) res.length d1 (so ++ [((t : Int) - 1)]) s2).1.length z.2]), ow 3 1 enInt z.1 z.2 (goB (worthP res (rowsV vs)) res.length d1 (so ++ [((t : Int) - 1)]) s2).1, ow 3 1 enInt A c (so ++ [((t : Int) - 1)])]) Tryz.call144 rfl rfl (fun w1 hp => by
            obtain ⟨q1, q2, q3⟩ := hp.ownL (Os := [ownB bm (cellsB 3 [.int .i64 s2.2]), ownB bt (cellsB 23 [.slice At2 s2.1.length ct2]), ow 3 1 enInt At2 ct2 s2.1, ow 3 1 enInt A c (so ++ [((t : Int) - 1)])]) inferInstance
            exact ih d1 hd1 (so ++ [((t : Int) - 1)]) A c s2 At2 ct2 w1 (by simp only [List.length_append, List.length_cons, List.length_nil]; omega) hokk q1 q2 q3) rfl (fun z => ?_)
          obtain ⟨At3, ct3⟩ := z
          dsimp only [List.cons_append, List.nil_append]
          refine oj_nil ?_
          refine ej_pl (lt_y (y_move rfl) rfl (lt_y (y_move rfl) rfl (lt_w (by kernel_rfl) (lt_nil)))) ?_
          refine pl_end (by kernel_rfl) ?_
          refine ej_blk (ej_th ?_)
          refine cj_regionG (gj_step (y_move rfl) rfl rfl rfl (gj_step (y_add rfl rfl (by omega)) rfl rfl rfl (gj_step (y_assign rfl) rfl rfl rfl (gj_nil ?_))))
          rw [show ((t : Nat) : Int) - 1 + 1 = ((t + 1 : Nat) : Int) - 1 by omega]
          refine ej_cutO (e := 3) (sz := 1) (enc := enInt) (A := A) (c := c) (xs := so) (ys := [((t : Int) - 1)]) (fun _ => rfl) hAn ?_
          exact ej_nx (t + 1, goB (worthP res (rowsV vs)) res.length d1 (so ++ [((t : Int) - 1)]) s2, At3, ct3) (by simp only; omega) ⟨by first | omega | (simp only; omega), hsk⟩ ⟨rfl, rfl, rfl, rfl, trivial⟩
        · refine oj_nil ?_
          refine ej_pl (lt_y (y_move rfl) rfl (lt_w (by kernel_rfl) (lt_y (y_loadS1 Tryz.isAgg258 rfl rfl) rfl (lt_nil)))) ?_
          refine pl_w1 5 (by kernel_rfl) rfl rfl (pl_fire rfl rfl rfl (by kernel_rfl) ?_)
          refine oj_callL (X := Option Addr × Nat) (fun _ => .tuple #[]) [ownB bm (cellsB 3 [.int .i64 s2.2]), ownB bt (cellsB 23 [.slice At2 s2.1.length ct2]), ow 3 1 enInt At2 ct2 s2.1, ow 3 1 enInt A44 c44 (so ++ [((t : Int) - 1)])] (fun z => [ownB bm (cellsB 3 [.int .i64 (goB (worthP res (rowsV vs)) res.length d1 (so ++ [((t : Int) - 1)]) s2).2]), ownB bt (cellsB 23 [.slice z.1 (goB (worthP res (rowsV vs)) res.length d1 (so ++ [((t : Int) - 1)]) s2).1.length z.2]), ow 3 1 enInt z.1 z.2 (goB (worthP res (rowsV vs)) res.length d1 (so ++ [((t : Int) - 1)]) s2).1, ow 3 1 enInt A44 c44 (so ++ [((t : Int) - 1)])]) Tryz.call144 rfl rfl (fun w1 hp => by
            obtain ⟨q1, q2, q3⟩ := hp.ownL (Os := [ownB bm (cellsB 3 [.int .i64 s2.2]), ownB bt (cellsB 23 [.slice At2 s2.1.length ct2]), ow 3 1 enInt At2 ct2 s2.1, ow 3 1 enInt A44 c44 (so ++ [((t : Int) - 1)])]) inferInstance
            exact ih d1 hd1 (so ++ [((t : Int) - 1)]) A44 c44 s2 At2 ct2 w1 (by simp only [List.length_append, List.length_cons, List.length_nil]; omega) hokk q1 q2 q3) rfl (fun z => ?_)
          obtain ⟨At3, ct3⟩ := z
          dsimp only [List.cons_append, List.nil_append]
          refine oj_nil ?_
          refine ej_pl (lt_y (y_move rfl) rfl (lt_y (y_move rfl) rfl (lt_w (by kernel_rfl) (lt_nil)))) ?_
          refine pl_end (by kernel_rfl) ?_
          refine ej_blk (ej_th ?_)
          refine cj_regionG (gj_step (y_move rfl) rfl rfl rfl (gj_step (y_add rfl rfl (by omega)) rfl rfl rfl (gj_step (y_assign rfl) rfl rfl rfl (gj_nil ?_))))
          rw [show ((t : Nat) : Int) - 1 + 1 = ((t + 1 : Nat) : Int) - 1 by omega]
          exact ej_nx (t + 1, goB (worthP res (rowsV vs)) res.length d1 (so ++ [((t : Int) - 1)]) s2, At3, ct3) (by simp only; omega) ⟨by first | omega | (simp only; omega), hsk⟩ ⟨rfl, rfl, rfl, rfl, trivial⟩
      · have h39b := h39
        try simp only [sxb] at h39
        have hkc : ¬ (((t : Int) - 1) < 0 ∨ so.contains ((t : Int) - 1) = false) := by simpa using h39b
        rw [stK, if_neg hkc] at hsk
        refine cj_skip (ej_blk (ej_th ?_))
        refine cj_regionG (gj_step (y_move rfl) rfl rfl rfl (gj_step (y_add rfl rfl (by omega)) rfl rfl rfl (gj_step (y_assign rfl) rfl rfl rfl (gj_nil ?_))))
        rw [show ((t : Nat) : Int) - 1 + 1 = ((t + 1 : Nat) : Int) - 1 by omega]
        exact ej_nx (t + 1, s2, At2, ct2) (by simp only; omega) ⟨by first | omega | (simp only; omega), hsk⟩ ⟨rfl, rfl, rfl, rfl, trivial⟩
    · have h29b := h29
      try simp only [sxb] at h29
      rw [goK_end (by omega)] at hsk
      subst hsk
      refine cj_exit (ej_then_exit (ej_then_exit (ej_blk_hit ?_)))
      exact ej_end0 rfl Tryz.results144 (fun w' hp => ⟨(At2, ct2), rfl, hp.givT _⟩)

end Go.Proofs.YtppfniekcgnmjaaGreat.Au
namespace Go.Proofs.YtppfniekcgnmjaaGreat.Au
open Go.Sx Go.RowKit
set_option maxRecDepth 20000

end Go.Proofs.YtppfniekcgnmjaaGreat.Au
