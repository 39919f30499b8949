/- Texts of ours, joined: 2 of them. Conditions: none. -/
import Derived.Test.YtppfniekcgnmjaaGreatZc
namespace Am

def bestS (f : List Int → Int) (s : List Int × Int) (so : List Int) : List Int × Int := if s.2 < f so then (so, f so) else s
/-- the lots that are tried: none, then each -/
def kL (m : Nat) : List Int := (List.range (m + 1)).map (fun i : Nat => (i : Int) - 1)
theorem kL_len (m : Nat) : (kL m).length = m + 1 := by simp [kL]
theorem kL_get {m t : Nat} (h : t ≤ m) : (kL m)[t]? = some ((t : Int) - 1) := by unfold kL; rw [List.getElem?_map, List.getElem?_range (by omega)]; rfl
theorem kL_mem {m : Nat} {k : Int} : k ∈ kL m ↔ -1 ≤ k ∧ k < m := by
  unfold kL
  rw [List.mem_map]
  constructor
  · rintro ⟨i, hi, e⟩; have := List.mem_range.1 hi; omega
  · intro h; exact ⟨(k + 1).toNat, List.mem_range.2 (by omega), by omega⟩
def goB (f : List Int → Int) (m : Nat) : Nat → List Int → List Int × Int → List Int × Int
  | 0, so, s => bestS f s so
  | d + 1, so, s => (kL m).foldl (fun s k => if k < 0 ∨ so.contains k = false then goB f m d (so ++ [k]) s else s) s
def stK (f : List Int → Int) (m d : Nat) (so : List Int) (s : List Int × Int) (k : Int) : List Int × Int := if k < 0 ∨ so.contains k = false then goB f m d (so ++ [k]) s else s
/-- the loop, from the t-th try on -/
def goK (f : List Int → Int) (m d : Nat) (so : List Int) (t : Nat) (s : List Int × Int) : List Int × Int := ((kL m).drop t).foldl (stK f m d so) s
theorem goK_0 (f : List Int → Int) (m d : Nat) (so : List Int) (s : List Int × Int) : goB f m (d + 1) so s = goK f m d so 0 s := rfl
theorem goK_s {f : List Int → Int} {m d : Nat} {so : List Int} {t : Nat} {s : List Int × Int} (h : t ≤ m) : goK f m d so t s = goK f m d so (t + 1) (stK f m d so s ((t : Int) - 1)) := by
  have hl : t < (kL m).length := by rw [kL_len]; omega
  unfold goK
  rw [List.drop_eq_getElem_cons hl, List.foldl_cons, show (kL m)[t] = (t : Int) - 1 from by have := kL_get h; rw [List.getElem?_eq_getElem hl] at this; exact Option.some.inj this]
theorem goK_end {f : List Int → Int} {m d : Nat} {so : List Int} {t : Nat} {s : List Int × Int} (h : m < t) : goK f m d so t s = s := by
  unfold goK; rw [List.drop_of_length_le (by rw [kL_len]; omega)]; rfl
/-- a list that completes another one -/
def Comp (m d : Nat) (so to : List Int) : Prop := OkL m to ∧ ∃ t, to = so ++ t ∧ t.length = d
structure Bst (f : List Int → Int) (C : List Int → Prop) (s s' : List Int × Int) : Prop where
  ge : s.2 ≤ s'.2
  all : ∀ to, C to → f to ≤ s'.2
  at_ : s' = s ∨ ∃ to, C to ∧ s' = (to, f to)
theorem goB_spec (f : List Int → Int) (m : Nat) : ∀ (d : Nat) (so : List Int) (s : List Int × Int), OkL m so → Bst f (Comp m d so) s (goB f m d so s)
  | 0, so, s, hs => by
    have hc : ∀ to, Comp m 0 so to → to = so := by rintro to ⟨_, t, e, hl⟩; rw [e, List.eq_nil_of_length_eq_zero hl, List.append_nil]
    have hso : Comp m 0 so so := ⟨hs, [], by simp, rfl⟩
    rw [goB, bestS]
    by_cases h : s.2 < f so
    · rw [if_pos h]; exact ⟨by simp only; omega, fun to ht => by rw [hc to ht]; exact Int.le_refl _, .inr ⟨so, hso, rfl⟩⟩
    · rw [if_neg h]; exact ⟨Int.le_refl _, fun to ht => by rw [hc to ht]; omega, .inl rfl⟩
  | d + 1, so, s, hs => by
    have key : ∀ (ks : List Int) (s : List Int × Int), (∀ k ∈ ks, -1 ≤ k ∧ k < m) → Bst f (fun to => ∃ k ∈ ks, Comp m d (so ++ [k]) to) s (ks.foldl (stK f m d so) s) := by
      intro ks
      induction ks with
      | nil => intro s _; exact ⟨Int.le_refl _, fun to ⟨k, hk, _⟩ => (by cases hk), .inl rfl⟩
      | cons k ks ih =>
        intro s hk
        rw [List.foldl_cons]
        obtain ⟨a1, a2, a3⟩ := ih (stK f m d so s k) (fun q hq => hk q (List.mem_cons_of_mem _ hq))
        have hkr := hk k (List.mem_cons_self ..)
        have hstep : Bst f (Comp m d (so ++ [k])) s (stK f m d so s k) := by
          unfold stK
          by_cases h : k < 0 ∨ so.contains k = false
          · rw [if_pos h]
            refine goB_spec f m d (so ++ [k]) s (OkL.snoc.2 ⟨hs, hkr, fun h0 hm => ?_⟩)
            rcases h with h | h
            · omega
            · rw [List.contains_iff_mem.2 hm] at h; cases h
          · rw [if_neg h]
            refine ⟨Int.le_refl _, fun to ht => ?_, .inl rfl⟩
            obtain ⟨hok, t, e, _⟩ := ht
            rw [e] at hok
            have := (OkL.snoc.1 hok.pre).2.2 (by omega)
            exact absurd (.inr (by cases hc : so.contains k; rfl; exact absurd (List.contains_iff_mem.1 hc) this)) h
        refine ⟨Int.le_trans hstep.ge a1, fun to ht => ?_, ?_⟩
        · obtain ⟨q, hq, hc⟩ := ht
          rcases List.mem_cons.1 hq with e | e
          · have := hstep.all to (e ▸ hc); omega
          · exact a2 to ⟨q, e, hc⟩
        · rcases a3 with e | ⟨to, ⟨q, hq, hc⟩, e⟩
          · rw [e]
            rcases hstep.at_ with e' | ⟨to, hc, e'⟩
            · exact .inl e'
            · exact .inr ⟨to, ⟨k, List.mem_cons_self .., hc⟩, e'⟩
          · exact .inr ⟨to, ⟨q, List.mem_cons_of_mem _ hq, hc⟩, e⟩
    obtain ⟨a1, a2, a3⟩ := key (kL m) s (fun k hk => kL_mem.1 hk)
    have hiff : ∀ to, Comp m (d + 1) so to ↔ ∃ k ∈ kL m, Comp m d (so ++ [k]) to := by
      intro to
      constructor
      · rintro ⟨hok, t, e, hl⟩
        cases t with
        | nil => simp at hl
        | cons k t =>
          refine ⟨k, kL_mem.2 (hok.rng k (by rw [e]; simp)), hok, t, by rw [e]; simp, by simpa using hl⟩
      · rintro ⟨k, _, hok, t, e, hl⟩
        exact ⟨hok, k :: t, by rw [e]; simp, by simp [hl]⟩
    show Bst f (Comp m (d + 1) so) s ((kL m).foldl (stK f m d so) s)
    exact ⟨a1, fun to ht => a2 to ((hiff to).1 ht), a3.imp id fun ⟨to, h, e⟩ => ⟨to, (hiff to).2 h, e⟩⟩
/-- the program's best list, and its worth -/
def bestF (res : List Int) (rows : List (List Int)) : List Int × Int := goB (worthP res rows) res.length rows.length [] ([], -1)
def nnL (l : List Int) : Prop := ∀ x ∈ l, 0 ≤ x
theorem getD_nn {l : List Int} (h : nnL l) (k : Nat) : 0 ≤ l.getD k 0 := by
  rw [List.getD_eq_getElem?_getD]
  cases hx : l[k]? with
  | none => simp
  | some x => exact h x (List.mem_of_getElem? hx)
theorem worth_nn {res : List Int} {rows : List (List Int)} (h1 : nnL res) (h2 : ∀ r ∈ rows, nnL r) (to : List Int) : 0 ≤ worthP res rows to := by
  have hvv : ∀ i j, 0 ≤ vv rows i j := by
    intro i j
    unfold vv
    refine getD_nn ?_ j
    rw [List.getD_eq_getElem?_getD]
    cases hr : rows[i]? with
    | none => intro x hx; cases hx
    | some r => exact h2 r (List.mem_of_getElem? hr)
  have g1 : ∀ (l : List Int) (k n : Int), nnL l → 0 ≤ n → 0 ≤ wFree to l k n := by
    intro l
    induction l with
    | nil => intro k n _ h; exact h
    | cons r l ih =>
      intro k n hl hn
      rw [wFree]
      have := hl r (List.mem_cons_self ..)
      exact ih _ _ (fun x hx => hl x (List.mem_cons_of_mem _ hx)) (by split <;> omega)
  have g2 : ∀ (t : List Int) (i : Nat) (n : Int), 0 ≤ n → 0 ≤ wGot rows t i n := by
    intro t
    induction t with
    | nil => intro i n h; exact h
    | cons k t ih =>
      intro i n hn
      rw [wGot]
      have := hvv i k.toNat
      exact ih _ _ (by split <;> omega)
  exact g2 to 0 _ (g1 res 0 0 h1 (Int.le_refl _))
theorem best_spec {res : List Int} {rows : List (List Int)} (h1 : nnL res) (h2 : ∀ r ∈ rows, nnL r) : OkL res.length (bestF res rows).1 ∧ (bestF res rows).1.length = rows.length ∧ (bestF res rows).2 = worthP res rows (bestF res rows).1 ∧ IsMax rows.length res.length (wv res rows) ((bestF res rows).2 - sumR res) ∧ wt rows.length (wv res rows) (sig (bestF res rows).1) = (bestF res rows).2 - sumR res := by
  obtain ⟨a1, a2, a3⟩ := goB_spec (worthP res rows) res.length rows.length [] ([], -1) (OkL.nil _)
  have hc : ∀ to, OkL res.length to → to.length = rows.length → Comp res.length rows.length [] to := fun to h hl => ⟨h, to, by simp, hl⟩
  have h0 : Val rows.length res.length (fun _ => none) := ⟨fun _ _ _ h => (by cases h), fun _ _ _ _ _ h => (by cases h)⟩
  have hz := a2 _ (hc _ (lst_ok h0) (lst_len _ _))
  have hzz := worth_nn h1 h2 (lst rows.length fun _ => none)
  rcases a3 with e | ⟨to, ⟨hok, t, e1, hl⟩, e⟩
  · rw [e] at hz; simp only at hz; omega
  · have e1' : to = t := by simpa using e1
    subst e1'
    have eb : bestF res rows = (to, worthP res rows to) := e
    have hw := worthP_eq (rows := rows) hok
    rw [hl] at hw
    have hv := sig_val hok
    rw [hl] at hv
    rw [eb]
    refine ⟨hok, hl, rfl, ⟨⟨sig to, hv, by simp only; omega⟩, fun σ hs => ?_⟩, by simp only; omega⟩
    have h3 := a2 _ (hc _ (lst_ok hs) (lst_len _ _))
    have h4 := worthP_eq (rows := rows) (lst_ok hs)
    rw [lst_len, wt_lst] at h4
    have eb2 : (goB (worthP res rows) res.length rows.length [] ([], -1)).2 = worthP res rows to := by rw [e]
    rw [eb2] at h3
    simp only; omega
/-! ### the reference: the lots that are free, as bits -/
def freeR (res : List Int) (f : Nat) : Int := sumN res.length (fun j => if f.testBit j then rv res j else 0)
def mostJ (row : List Int) (f : Nat) (g : Nat → Int) : Nat → Nat → Int → Int
  | 0, _, b => b
  | d + 1, j, b => mostJ row f g d (j + 1) (if f.testBit j then max b (row.getD j 0 + g (f - 2 ^ j)) else b)
def mostR (res : List Int) : List (List Int) → Nat → Int
  | [], f => freeR res f
  | row :: rest, f => mostJ row f (mostR res rest) res.length 0 (mostR res rest f)
structure IsFree (n m f : Nat) (w : Nat → Nat → Int) (M : Int) : Prop where
  at_ : ∃ σ, Val n m σ ∧ (∀ i j, i < n → σ i = some j → f.testBit j = true) ∧ wt n w σ = M
  le : ∀ σ, Val n m σ → (∀ i j, i < n → σ i = some j → f.testBit j = true) → wt n w σ ≤ M
theorem wt_left (n : Nat) (w : Nat → Nat → Int) (σ : Nat → Option Nat) : wt (n + 1) w σ = gt w 0 (σ 0) + wt n (fun i => w (i + 1)) (fun i => σ (i + 1)) := by
  unfold wt; rw [sumN_left]; congr 1
theorem bit_sub {f j k : Nat} (h : f.testBit j = true) : (f - 2 ^ j).testBit k = (f.testBit k && !(k == j)) := by
  have hq : 2 ^ (j + 1) * (f / 2 ^ (j + 1)) + f % 2 ^ (j + 1) = f := Nat.div_add_mod ..
  have hlt : f % 2 ^ (j + 1) < 2 ^ (j + 1) := Nat.mod_lt _ (Nat.two_pow_pos _)
  have hb : (f % 2 ^ (j + 1)).testBit j = true := by rw [Nat.testBit_mod_two_pow, h]; simp
  have hge := Nat.ge_two_pow_of_testBit hb
  have hp : 2 ^ (j + 1) = 2 * 2 ^ j := by rw [Nat.pow_succ]; omega
  obtain ⟨r, hr⟩ : ∃ r, f % 2 ^ (j + 1) = 2 ^ j + r := ⟨f % 2 ^ (j + 1) - 2 ^ j, by omega⟩
  have hrl : r < 2 ^ j := by omega
  rw [hr] at hq hlt
  have e1 : f - 2 ^ j = 2 ^ (j + 1) * (f / 2 ^ (j + 1)) + r := by omega
  rw [e1, Nat.testBit_two_pow_mul_add _ (by omega), ← hq, Nat.testBit_two_pow_mul_add _ hlt]
  have e2 : (2 ^ (j + 1) * (f / 2 ^ (j + 1)) + (2 ^ j + r)) / 2 ^ (j + 1) = f / 2 ^ (j + 1) := by rw [hq]
  rw [e2]
  by_cases hk : k < j + 1
  · rw [if_pos hk, if_pos hk]
    by_cases hkj : k = j
    · subst hkj; rw [Nat.testBit_lt_two_pow hrl]; simp
    · rw [Nat.testBit_two_pow_add_gt (by omega)]; simp [hkj]
  · rw [if_neg hk, if_neg hk]
    have : k ≠ j := by omega
    simp [this]
theorem free_sub {res : List Int} {f j : Nat} (h : f.testBit j = true) (hj : j < res.length) : freeR res (f - 2 ^ j) = freeR res f - rv res j := by
  unfold freeR
  rw [sumN_upd (fun k => if (f - 2 ^ j).testBit k then rv res k else 0) (fun k => if f.testBit k then rv res k else 0) hj (fun k _ hne => by
    simp only [bit_sub h]; simp [hne])]
  simp only [bit_sub h, h]; simp
theorem mostJ_spec (row : List Int) (f : Nat) (g : Nat → Int) : ∀ (d j : Nat) (b : Int), b ≤ mostJ row f g d j b ∧ (∀ k, j ≤ k → k < j + d → f.testBit k = true → row.getD k 0 + g (f - 2 ^ k) ≤ mostJ row f g d j b) ∧ (mostJ row f g d j b = b ∨ ∃ k, j ≤ k ∧ k < j + d ∧ f.testBit k = true ∧ mostJ row f g d j b = row.getD k 0 + g (f - 2 ^ k))
  | 0, j, b => ⟨Int.le_refl _, fun k h1 h2 => absurd h2 (by omega), .inl rfl⟩
  | d + 1, j, b => by
    rw [mostJ]
    by_cases hb : f.testBit j = true
    · rw [if_pos hb]
      obtain ⟨h1, h2, h3⟩ := mostJ_spec row f g d (j + 1) (max b (row.getD j 0 + g (f - 2 ^ j)))
      refine ⟨by omega, fun k hk1 hk2 hk => ?_, ?_⟩
      · by_cases e : k = j
        · rw [e]; omega
        · exact h2 k (by omega) (by omega) hk
      · rcases h3 with e | ⟨k, k1, k2, k3, k4⟩
        · by_cases hm : b ≤ row.getD j 0 + g (f - 2 ^ j)
          · exact .inr ⟨j, Nat.le_refl _, by omega, hb, by omega⟩
          · exact .inl (by omega)
        · exact .inr ⟨k, by omega, by omega, k3, k4⟩
    · rw [if_neg hb]
      obtain ⟨h1, h2, h3⟩ := mostJ_spec row f g d (j + 1) b
      refine ⟨h1, fun k hk1 hk2 hk => ?_, h3.imp id fun ⟨k, k1, k2, x⟩ => ⟨k, by omega, by omega, x⟩⟩
      by_cases e : k = j
      · rw [e] at hk; exact absurd hk hb
      · exact h2 k (by omega) (by omega) hk
theorem mostR_spec (res : List Int) : ∀ (rows : List (List Int)) (f : Nat), IsFree rows.length res.length f (wv res rows) (mostR res rows f - freeR res f)
  | [], f => by
    rw [mostR, Int.sub_self]
    exact ⟨⟨fun _ => none, ⟨fun _ _ h => absurd h (Nat.not_lt_zero _), fun _ _ _ h => absurd h (Nat.not_lt_zero _)⟩, fun _ _ h => absurd h (Nat.not_lt_zero _), rfl⟩, fun σ _ _ => Int.le_refl _⟩
  | row :: rest, f => by
    have hw0 : ∀ j, wv res (row :: rest) 0 j = row.getD j 0 - rv res j := fun j => rfl
    have hws : (fun i => wv res (row :: rest) (i + 1)) = wv res rest := rfl
    rw [mostR, List.length_cons]
    obtain ⟨b1, b2, b3⟩ := mostJ_spec row f (mostR res rest) res.length 0 (mostR res rest f)
    have hN := mostR_spec res rest f
    refine ⟨?_, fun σ hs hf => ?_⟩
    · rcases b3 with e | ⟨k, _, k2, k3, k4⟩
      · obtain ⟨σ, s1, s2, s3⟩ := hN.at_
        refine ⟨fun i => match i with | 0 => none | i + 1 => σ i, ⟨fun i j hi h => ?_, fun i i' j hi hi' h h' => ?_⟩, fun i j hi h => ?_, ?_⟩
        · cases i with
          | zero => cases h
          | succ i => exact s1.lot i j (by omega) h
        · cases i with
          | zero => cases h
          | succ i =>
            cases i' with
            | zero => cases h'
            | succ i' => rw [s1.inj i i' j (by omega) (by omega) h h']
        · cases i with
          | zero => cases h
          | succ i => exact s2 i j (by omega) h
        · rw [wt_left, hws]
          show (0 : Int) + wt rest.length (wv res rest) (fun i => σ i) = _
          rw [e]; have : wt rest.length (wv res rest) (fun i => σ i) = wt rest.length (wv res rest) σ := rfl
          omega
      · have hkm : k < res.length := by omega
        obtain ⟨σ, s1, s2, s3⟩ := (mostR_spec res rest (f - 2 ^ k)).at_
        have hne : ∀ i j, i < rest.length → σ i = some j → j ≠ k ∧ f.testBit j = true := fun i j hi h => by
          have := s2 i j hi h
          rw [bit_sub k3] at this
          simp at this; exact ⟨this.2, this.1⟩
        refine ⟨fun i => match i with | 0 => some k | i + 1 => σ i, ⟨fun i j hi h => ?_, fun i i' j hi hi' h h' => ?_⟩, fun i j hi h => ?_, ?_⟩
        · cases i with
          | zero => cases h; exact hkm
          | succ i => exact s1.lot i j (by omega) h
        · cases i with
          | zero =>
            cases i' with
            | zero => rfl
            | succ i' => cases h; exact absurd rfl (hne i' _ (by omega) h').1
          | succ i =>
            cases i' with
            | zero => cases h'; exact absurd rfl (hne i _ (by omega) h).1
            | succ i' => rw [s1.inj i i' j (by omega) (by omega) h h']
        · cases i with
          | zero => cases h; exact k3
          | succ i => exact (hne i j (by omega) h).2
        · rw [wt_left, hws]
          show wv res (row :: rest) 0 k + wt rest.length (wv res rest) (fun i => σ i) = _
          have : wt rest.length (wv res rest) (fun i => σ i) = wt rest.length (wv res rest) σ := rfl
          rw [k4, hw0]
          have := free_sub k3 hkm
          omega
    · rw [wt_left, hws]
      have hv : Val rest.length res.length (fun i => σ (i + 1)) := ⟨fun i j hi h => hs.lot (i + 1) j (by omega) h, fun i i' j hi hi' h h' => by have := hs.inj (i + 1) (i' + 1) j (by omega) (by omega) h h'; omega⟩
      cases h0 : σ 0 with
      | none =>
        have := hN.le _ hv (fun i j hi h => hf (i + 1) j (by omega) h)
        show (0 : Int) + _ ≤ _
        omega
      | some k =>
        have hkm := hs.lot 0 k (by omega) h0
        have hkf := hf 0 k (by omega) h0
        have := (mostR_spec res rest (f - 2 ^ k)).le _ hv (fun i j hi h => by
          rw [bit_sub hkf, hf (i + 1) j (by omega) h]
          have : j ≠ k := fun e => by have := hs.inj (i + 1) 0 j (by omega) (by omega) h (e ▸ h0); omega
          simp [this])
        have h2 := b2 k (Nat.zero_le _) (by omega) hkf
        have := free_sub hkf hkm
        show wv res (row :: rest) 0 k + _ ≤ _
        rw [hw0]; omega
/-- all lots are free -/
theorem most_all (res : List Int) (rows : List (List Int)) : IsMax rows.length res.length (wv res rows) (mostR res rows (2 ^ res.length - 1) - sumR res) := by
  have hb : ∀ j, j < res.length → (2 ^ res.length - 1).testBit j = true := fun j hj => by rw [Nat.testBit_two_pow_sub_one]; simp [hj]
  have hR : freeR res (2 ^ res.length - 1) = sumR res := sumN_congr fun j hj => by rw [if_pos (hb j hj)]
  obtain ⟨⟨σ, a1, a2, a3⟩, b⟩ := mostR_spec res rows (2 ^ res.length - 1)
  rw [hR] at a3 b
  exact ⟨⟨σ, a1, a3⟩, fun τ h => b τ h (fun i j hi e => hb j (h.lot i j hi e))⟩
theorem most_best {res : List Int} {rows : List (List Int)} (h1 : nnL res) (h2 : ∀ r ∈ rows, nnL r) : mostR res rows (2 ^ res.length - 1) = (bestF res rows).2 := by
  have := (most_all res rows).uniq (best_spec h1 h2).2.2.2.1
  omega
/-! ### a lot once more -/
def withR (res : List Int) (k : Nat) : List Int := res ++ [res.getD k 0]
def withV (rows : List (List Int)) (k : Nat) : List (List Int) := rows.map (fun l => l ++ [l.getD k 0])
theorem with_w {res : List Int} {rows : List (List Int)} {k : Nat} (hr : ∀ r ∈ rows, r.length = res.length) (i j : Nat) (hi : i < rows.length) (hj : j < res.length + 1) : wv (withR res k) (withV rows k) i j = dup res.length k (wv res rows) i j := by
  have hx : ∀ l : List Int, l.length = res.length → (l ++ [l.getD k 0]).getD j 0 = l.getD (if j = res.length then k else j) 0 := by
    intro l hl
    rw [List.getD_eq_getElem?_getD, List.getElem?_append]
    by_cases h : j = res.length
    · rw [if_neg (by omega), if_pos h, h, hl]; simp
    · rw [if_pos (by omega), if_neg h, List.getD_eq_getElem?_getD]
  have hrow : (rows.map (fun l => l ++ [l.getD k 0])).getD i [] = (rows.getD i []) ++ [(rows.getD i []).getD k 0] := by
    rw [List.getD_eq_getElem?_getD, List.getElem?_map, List.getD_eq_getElem?_getD, List.getElem?_eq_getElem hi]; rfl
  have hlen : (rows.getD i []).length = res.length := by
    rw [List.getD_eq_getElem?_getD, List.getElem?_eq_getElem hi]; exact hr _ (List.getElem_mem _)
  unfold wv dup vv rv withV withR
  rw [hrow, hx _ hlen, hx _ rfl]
theorem with_len (res : List Int) (k : Nat) : (withR res k).length = res.length + 1 := by simp [withR]
theorem withV_len (rows : List (List Int)) (k : Nat) : (withV rows k).length = rows.length := by simp [withV]
theorem with_nn {res : List Int} {k : Nat} (h : nnL res) : nnL (withR res k) := by
  intro x hx
  rcases List.mem_append.1 hx with e | e
  · exact h x e
  · simp at e; rw [e]; have := getD_nn h k; rwa [List.getD_eq_getElem?_getD] at this
theorem withV_nn {rows : List (List Int)} {k : Nat} (h : ∀ r ∈ rows, nnL r) : ∀ r ∈ withV rows k, nnL r := by
  intro r hr
  obtain ⟨l, hl, e⟩ := List.mem_map.1 hr
  rw [← e]; exact with_nn (h l hl)
theorem sumR_with (res : List Int) (k : Nat) : sumR (withR res k) = sumR res + rv res k := by
  unfold sumR
  rw [with_len, sumN]
  have e : sumN res.length (rv (withR res k)) = sumN res.length (rv res) := sumN_congr fun j hj => by
    unfold rv withR; rw [List.getD_eq_getElem?_getD, List.getElem?_append, if_pos hj, List.getD_eq_getElem?_getD]
  rw [e]
  congr 1
  unfold rv withR
  rw [List.getD_eq_getElem?_getD, List.getElem?_append, if_neg (by omega)]; simp
/-- the price of a lot -/
def priceC (res : List Int) (rows : List (List Int)) (k : Nat) : Int := (bestF (withR res k) (withV rows k)).2 - (bestF res rows).2
theorem price_max {res : List Int} {rows : List (List Int)} (h1 : nnL res) (h2 : ∀ r ∈ rows, nnL r) (hr : ∀ r ∈ rows, r.length = res.length) (k : Nat) : IsMax rows.length (res.length + 1) (dup res.length k (wv res rows)) (priceC res rows k - rv res k + ((bestF res rows).2 - sumR res)) := by
  have h := (best_spec (with_nn (k := k) h1) (withV_nn (k := k) h2)).2.2.2.1
  rw [withV_len, with_len] at h
  have h3 := h.congr (fun i j hi hj => with_w hr i j hi hj)
  have e := sumR_with res k
  have : priceC res rows k - rv res k + ((bestF res rows).2 - sumR res) = (bestF (withR res k) (withV rows k)).2 - sumR (withR res k) := by unfold priceC; omega
  rw [this]; exact h3
def pricesL (res : List Int) (rows : List (List Int)) : List Int := (List.range res.length).map (priceC res rows)
end Am
namespace Go.Proofs.YtppfniekcgnmjaaGreat.Au
open Go.Sx Go.RowKit Am

theorem not_t {b : Bool} (h : (!b) = true) : b = false := by cases b <;> simp_all
theorem not_f {b : Bool} (h : (!b) = false) : b = true := by cases b <;> simp_all
def seek : List Int → Int → Int → Int
  | [], _, _ => -1
  | x :: l, n, i => if x = n then i else seek l n (i + 1)
theorem seek_drop (l : List Int) (n : Int) (k : Nat) (x : Int) (h : l[k]? = some x) : seek (l.drop k) n k = if x = n then (k : Int) else seek (l.drop (k + 1)) n ((k + 1 : Nat) : Int) := by
  obtain ⟨h1, h2⟩ := List.getElem?_eq_some_iff.1 h
  rw [List.drop_eq_getElem_cons h1, h2, seek]; rfl
def btw (lo n hi : Int) : Bool := decide (lo ≤ n) && decide (n ≤ hi)
theorem all_drop {α : Type} (p : α → Bool) (l : List α) (k : Nat) (x : α) (h : l[k]? = some x) : (l.drop k).all p = (p x && (l.drop (k + 1)).all p) := by
  obtain ⟨h1, h2⟩ := List.getElem?_eq_some_iff.1 h
  rw [List.drop_eq_getElem_cons h1, h2, List.all_cons]
theorem btw_t {lo n hi : Int} : btw lo n hi = true ↔ lo ≤ n ∧ n ≤ hi := by unfold btw; rw [Bool.and_eq_true, decide_eq_true_iff, decide_eq_true_iff]
theorem btw_f {lo n hi : Int} : btw lo n hi = false ↔ ¬ (lo ≤ n ∧ n ≤ hi) := by rw [← btw_t]; simp

abbrev encRi (r : RiseV) : List Value := [.int .i64 r.fr, .int .i64 r.by_]
abbrev encBi (b : BidV) : List Value := [.int .i64 b.who, .int .i64 b.way, .int .i64 b.most]
abbrev encLe (x : LeadV) : List Value := [.int .i64 x.who, .int .i64 x.limit, .int .i64 x.way, .int .i64 x.second, .int .i64 x.price]
/-! a lot -/
def stepOk (pr : Option Int) (r : RiseV) : Bool := btw 1 r.by_ 100000 && (match pr with | none => true | some q => btw (q + 1) r.fr 100000)
def ladG : Option Int → List RiseV → Bool
  | _, [] => true
  | pr, r :: l => stepOk pr r && ladG (some r.fr) l
def prevAt (lad : List RiseV) : Nat → Option Int
  | 0 => none
  | k + 1 => (lad[k]?).map (·.fr)
theorem ladG_drop (lad : List RiseV) (k : Nat) (r : RiseV) (h : lad[k]? = some r) : ladG (prevAt lad k) (lad.drop k) = (stepOk (prevAt lad k) r && ladG (prevAt lad (k + 1)) (lad.drop (k + 1))) := by
  obtain ⟨h1, h2⟩ := List.getElem?_eq_some_iff.1 h
  rw [List.drop_eq_getElem_cons h1, h2, ladG, prevAt, h]; rfl
def lotB (st rv : Int) (lad : List RiseV) : Bool := btw 1 st 100000 && btw 0 rv 100000 && btw 1 lad.length 8 && ((lad.getD 0 default).fr == 0) && ladG none lad
def lotE (st rv : Int) (lad : List RiseV) : Int := if lotB st rv lad = true then 0 else 60
def refOk (pr : Option Int) (r : RiseV) : Bool := btw 0 r.fr 100000 && btw 1 r.by_ 100000 && (match pr with | none => r.fr == 0 | some q => decide (q < r.fr))
def refG : Option Int → List RiseV → Bool
  | _, [] => true
  | pr, r :: l => refOk pr r && refG (some r.fr) l
theorem refG_drop (lad : List RiseV) (k : Nat) (r : RiseV) (h : lad[k]? = some r) : refG (prevAt lad k) (lad.drop k) = (refOk (prevAt lad k) r && refG (prevAt lad (k + 1)) (lad.drop (k + 1))) := by
  obtain ⟨h1, h2⟩ := List.getElem?_eq_some_iff.1 h
  rw [List.drop_eq_getElem_cons h1, h2, refG, prevAt, h]; rfl
theorem ref_step (q : Int) (h : 0 ≤ q) (r : RiseV) : refOk (some q) r = stepOk (some q) r := by
  unfold refOk stepOk btw
  simp only
  by_cases h1 : q < r.fr
  · have e1 : decide (q < r.fr) = true := by simpa
    have e2 : decide (q + 1 ≤ r.fr) = true := by simpa
    have e3 : decide (0 ≤ r.fr) = true := by simp; omega
    rw [e1, e2, e3]
    cases decide (r.fr ≤ 100000) <;> cases decide (1 ≤ r.by_) <;> cases decide (r.by_ ≤ 100000) <;> rfl
  · have e1 : decide (q < r.fr) = false := by simpa using h1
    have e2 : decide (q + 1 ≤ r.fr) = false := by simp; omega
    rw [e1, e2]; simp
theorem ref_lad : ∀ (l : List RiseV) (q : Int), 0 ≤ q → refG (some q) l = ladG (some q) l
  | [], _, _ => rfl
  | r :: l, q, h => by
    rw [refG, ladG, ref_step q h]
    cases hs : stepOk (some q) r with
    | false => rfl
    | true =>
      unfold stepOk at hs
      have := btw_t.1 (Bool.and_eq_true_iff.1 hs).2
      rw [ref_lad l r.fr (by omega)]
theorem ref_lot (lad : List RiseV) (h : 1 ≤ lad.length) : refG none lad = (((lad.getD 0 default).fr == 0) && ladG none lad) := by
  cases lad with
  | nil => simp at h
  | cons r l =>
    rw [refG, ladG]
    unfold refOk stepOk
    simp only [List.getD_cons_zero, Bool.and_true]
    by_cases h0 : r.fr = 0
    · have e0 : btw 0 r.fr 100000 = true := btw_t.2 (by omega)
      rw [e0, h0, ref_lad l 0 (Int.le_refl _)]; simp
    · have : (r.fr == 0) = false := by simpa using h0
      rw [this]; simp
def lotH (st rv : Int) (lad : List RiseV) : Bool := btw 1 st 100000 && btw 0 rv 100000 && btw 1 lad.length 8 && ((lad.getD 0 default).fr == 0)
theorem lotB_H (st rv : Int) (lad : List RiseV) : lotB st rv lad = (lotH st rv lad && ladG none lad) := rfl
theorem lotH_V (st rv : Int) (lad : List RiseV) : ((((!(decide (1 ≤ st) && decide (st ≤ 100000))) || !(decide (0 ≤ rv) && decide (rv ≤ 100000))) || !(decide ((1 : Int) ≤ lad.length) && decide ((lad.length : Int) ≤ 8))) || ((lad.getD (0 : Int).toNat default).fr != 0)) = !(lotH st rv lad) := by
  have e : ((lad.getD (0 : Int).toNat default).fr != 0) = !((lad.getD 0 default).fr == 0) := rfl
  rw [e, ← Bool.not_and, ← Bool.not_and, ← Bool.not_and]; rfl
theorem lotH_z {st rv : Int} {lad : List RiseV} (h : lotH st rv lad = true) : (1 ≤ lad.length ∧ lad.length ≤ 8) ∧ (lad.getD 0 default).fr = 0 := by
  unfold lotH at h
  simp only [Bool.and_eq_true, btw_t] at h
  exact ⟨by omega, by simpa using h.2⟩
theorem step_V (lad : List RiseV) (k : Nat) (r : RiseV) (hk : k ≤ lad.length) : ((!(decide (1 ≤ r.by_) && decide (r.by_ ≤ 100000))) || (decide (0 < (k : Int)) && !(decide ((lad.getD ((k : Int) - 1).toNat default).fr + 1 ≤ r.fr) && decide (r.fr ≤ 100000)))) = !(stepOk (prevAt lad k) r) := by
  unfold stepOk
  cases k with
  | zero => unfold btw; simp [prevAt]
  | succ k =>
    have e1 : (((k + 1 : Nat) : Int) - 1).toNat = k := by omega
    have e2 : decide ((0 : Int) < ((k + 1 : Nat) : Int)) = true := decide_eq_true (by omega)
    have e3 : prevAt lad (k + 1) = some (lad.getD k default).fr := by
      rw [prevAt, List.getD_eq_getElem?_getD, List.getElem?_eq_getElem (by omega)]; rfl
    rw [e1, e2, e3, Bool.true_and, ← Bool.not_and]; rfl
theorem step_fr {lad : List RiseV} {k : Nat} {r : RiseV} (hx : lad[k]? = some r) (h : stepOk (prevAt lad k) r = true) (hpv : ∀ j, j < k → 0 ≤ (lad.getD j default).fr ∧ (lad.getD j default).fr ≤ 100000) (hz : (lad.getD 0 default).fr = 0) : 0 ≤ r.fr ∧ r.fr ≤ 100000 := by
  have hr : lad.getD k default = r := by rw [List.getD_eq_getElem?_getD, hx]; rfl
  cases k with
  | zero => rw [hr] at hz; omega
  | succ k =>
    have hlt := (List.getElem?_eq_some_iff.1 hx).1
    have e3 : prevAt lad (k + 1) = some (lad.getD k default).fr := by
      rw [prevAt, List.getD_eq_getElem?_getD, List.getElem?_eq_getElem (by omega)]; rfl
    rw [e3] at h
    unfold stepOk at h
    have h1 := btw_t.1 (Bool.and_eq_true_iff.1 h).2
    have h2 := hpv k (by omega)
    omega
theorem refStep_V (lad : List RiseV) (k : Nat) (r : RiseV) (hk : k ≤ lad.length) (ok : Bool) : ((((ok && (decide (0 ≤ r.fr) && decide (r.fr ≤ 100000))) && (decide (1 ≤ r.by_) && decide (r.by_ ≤ 100000))) && (decide (0 < (k : Int)) || (r.fr == 0))) && (((k : Int) == 0) || decide ((lad.getD ((k : Int) - 1).toNat default).fr < r.fr))) = (ok && refOk (prevAt lad k) r) := by
  unfold refOk
  cases k with
  | zero => simp [prevAt, btw, Bool.and_assoc]
  | succ k =>
    have e1 : (((k + 1 : Nat) : Int) - 1).toNat = k := by omega
    have e2 : decide ((0 : Int) < ((k + 1 : Nat) : Int)) = true := decide_eq_true (by omega)
    have e4 : (((k + 1 : Nat) : Int) == 0) = false := beq_eq_false_iff_ne.2 (by omega)
    have e3 : prevAt lad (k + 1) = some (lad.getD k default).fr := by
      rw [prevAt, List.getD_eq_getElem?_getD, List.getElem?_eq_getElem (by omega)]; rfl
    rw [e1, e2, e3, e4]
    simp [btw, Bool.and_assoc]
theorem ref_all (st rv : Int) (lad : List RiseV) : ((((decide (1 ≤ st) && decide (st ≤ 100000)) && (decide (0 ≤ rv) && decide (rv ≤ 100000))) && (decide ((1 : Int) ≤ lad.length) && decide ((lad.length : Int) ≤ 8))) && refG none lad) = lotB st rv lad := by
  unfold lotB btw
  by_cases h : 1 ≤ lad.length
  · rw [ref_lot lad h]; simp only [Bool.and_assoc]
  · have : decide ((1 : Int) ≤ lad.length) = false := by simp; omega
    rw [this]; simp
theorem getD_mem {α : Type} {l : List α} {k : Nat} {d : α} (h : k < l.length) : l.getD k d ∈ l := by
  rw [List.getD_eq_getElem?_getD, List.getElem?_eq_getElem h]; exact List.getElem_mem _
structure LotOk (st rv : Int) (lad : List RiseV) : Prop where
  st : 1 ≤ st ∧ st ≤ 100000
  rv : 0 ≤ rv ∧ rv ≤ 100000
  len : lad.length ≤ 8
  lad : LadOk lad
theorem ladG_inc : ∀ (lad : List RiseV) (pr : Option Int), ladG pr lad = true → (∀ r ∈ lad, 1 ≤ r.by_ ∧ r.by_ ≤ 100000) ∧ (∀ i, i + 1 < lad.length → (lad.getD i default).fr < (lad.getD (i + 1) default).fr)
  | [], _, _ => ⟨fun _ h => (by cases h), fun i h => (by simp at h)⟩
  | r :: l, pr, h => by
    rw [ladG, Bool.and_eq_true] at h
    obtain ⟨h1, h2⟩ := h
    obtain ⟨a, b⟩ := ladG_inc l _ h2
    have hb := btw_t.1 (Bool.and_eq_true_iff.1 h1).1
    refine ⟨fun q hq => ?_, fun i hi => ?_⟩
    · rcases List.mem_cons.1 hq with e | e
      · rw [e]; exact hb
      · exact a q e
    · cases i with
      | zero =>
        cases l with
        | nil => simp at hi
        | cons s l =>
          rw [ladG, Bool.and_eq_true] at h2
          have := btw_t.1 (Bool.and_eq_true_iff.1 h2.1).2
          show r.fr < s.fr
          omega
      | succ i => exact b i (by simpa using hi)
theorem lot_ok {st rv : Int} {lad : List RiseV} (h : lotB st rv lad = true) : LotOk st rv lad := by
  unfold lotB at h
  simp only [Bool.and_eq_true, btw_t] at h
  obtain ⟨⟨⟨⟨h1, h2⟩, h3⟩, h4⟩, h5⟩ := h
  obtain ⟨a, b⟩ := ladG_inc lad none h5
  exact ⟨h1, h2, by omega, ⟨by omega, by simpa using h4, b, a⟩⟩
theorem lotE_0 {st rv : Int} {lad : List RiseV} (h : (lotE st rv lad != 0) = false) : lotB st rv lad = true := by
  unfold lotE at h
  cases hb : lotB st rv lad with
  | true => rfl
  | false => rw [hb] at h; simp at h
theorem lotE_no {st rv : Int} {lad : List RiseV} (h : (lotE st rv lad != 0) = true) : lotB st rv lad = false := by
  unfold lotE at h
  cases hb : lotB st rv lad with
  | true => rw [hb] at h; simp at h
  | false => rfl
/-- the step from p at rung a of the ladder -/
theorem at_next {lad : List RiseV} (h : LadOk lad) {a : Nat} {p : Int} (h1 : a < lad.length) (h2 : (lad.getD a default).fr ≤ p) (h3 : ¬ (a + 1 < lad.length ∧ (lad.getD (a + 1) default).fr ≤ p)) : p + (lad.getD a default).by_ = nx lad p := by
  unfold nx
  rw [byR_at h ⟨h1, h2, fun h4 => by omega⟩]
theorem rg_get {lad : List RiseV} (h : LadOk lad) {st p : Int} {k : Nat} (h0 : 0 ≤ p) (hp : p ≤ 100000) (hd : (rgL lad st).drop k = rgL lad p) : (rgL lad st)[k]? = some p ∧ (rgL lad st).drop (k + 1) = rgL lad (nx lad p) := by
  rw [rgL_step h h0, if_pos hp] at hd
  refine ⟨?_, ?_⟩
  · have := congrArg (fun l => l[0]?) hd
    simpa using this
  · have := congrArg List.tail hd
    simpa using this
theorem rg_end {lad : List RiseV} (h : LadOk lad) {st p : Int} {k : Nat} (h0 : 0 ≤ p) (hp : ¬ p ≤ 100000) (hk : k ≤ (rgL lad st).length) (hd : (rgL lad st).drop k = rgL lad p) : k = (rgL lad st).length := by
  rw [rgL_step h h0, if_neg hp] at hd
  have := congrArg List.length hd
  simp at this
  omega
theorem rungF_drop (n out : Int) (rs : List Int) (k : Nat) (p : Int) (h : rs[k]? = some p) : rungF n (rs.drop k) out = if n < p then out else rungF n (rs.drop (k + 1)) p := by
  obtain ⟨h1, h2⟩ := List.getElem?_eq_some_iff.1 h
  rw [List.drop_eq_getElem_cons h1, h2, rungF]
theorem behF_drop (n : Int) (rs : List Int) (k : Nat) (p : Int) (h : rs[k]? = some p) : behF n (rs.drop k) = if n < p then p else behF n (rs.drop (k + 1)) := by
  obtain ⟨h1, h2⟩ := List.getElem?_eq_some_iff.1 h
  rw [List.drop_eq_getElem_cons h1, h2, behF]
def TB (J Jx : List Fact → Nat → World → Prop) (k : Nat) (b : Bool) (W : World) : Prop := if b = true then J [] k W else Jx [] k W
def rungR (st : Int) (lad : List RiseV) (n : Int) : Int := rungF n (rgL lad st) 0
/-- the reference's search for a rung -/
def refRung (st : Int) (lad : List RiseV) (n : Int) : Int := if n < st then 0 else refR lad (min n 100000) 100001 st
theorem refRung_eq {st rv : Int} {lad : List RiseV} (h : LotOk st rv lad) (n : Int) : refRung st lad n = rungR st lad n := by
  unfold refRung rungR
  by_cases hn : n < st
  · rw [if_pos hn, rgL_step h.lad (by have := h.st; omega), if_pos h.st.2, rungF, if_pos hn]
  · rw [if_neg hn]
    exact (refR_rung h.lad n 100001 st h.st.1 (by have := h.st; omega) (by have := h.st; omega)).1
theorem rung_bd {st rv : Int} {lad : List RiseV} (h : LotOk st rv lad) (n : Int) : 0 ≤ rungR st lad n ∧ rungR st lad n ≤ 100000 := by
  have ha := rgL_asc h.lad h.st.1
  unfold rungR
  rcases rungF_spec (n := n) _ 0 ha with ⟨e, _⟩ | ⟨a, _, _⟩
  · rw [e]; omega
  · have := ha.pos _ a; omega
theorem beh_bd {st rv : Int} {lad : List RiseV} (h : LotOk st rv lad) (n : Int) : 0 ≤ behF n (rgL lad st) ∧ behF n (rgL lad st) ≤ 100000 := by
  have ha := rgL_asc h.lad h.st.1
  rcases behF_spec (n := n) _ ha with ⟨e, _⟩ | ⟨a, _, _⟩
  · rw [e]; omega
  · have := ha.pos _ a; omega
theorem refR_s (lad : List RiseV) (m : Int) (k : Nat) (x : Int) : refR lad m (k + 1) x = if nx lad x ≤ m then refR lad m k (nx lad x) else x := rfl
theorem refR_fuel {lad : List RiseV} (h : LadOk lad) (m : Int) : ∀ (k : Nat) (x : Int), 0 ≤ x → m ≤ x + k → refR lad m (k + 1) x = refR lad m k x
  | 0, x, h0, hk => by
    have := byR_bd h h0
    rw [refR_s, if_neg (by unfold nx; omega)]; rfl
  | k + 1, x, h0, hk => by
    have := byR_bd h h0
    rw [refR_s lad m (k + 1) x, refR_s lad m k x]
    by_cases hn : nx lad x ≤ m
    · rw [if_pos hn, if_pos hn, refR_fuel h m k _ (by unfold nx; omega) (by unfold nx; omega)]
    · rw [if_neg hn, if_neg hn]
theorem resR_s (lad : List RiseV) (r : Int) (k : Nat) (x : Int) : resR lad r (k + 1) x = if x < r then resR lad r k (nx lad x) else x := rfl
theorem resR_fuel {lad : List RiseV} (h : LadOk lad) (r : Int) : ∀ (k : Nat) (x : Int), 0 ≤ x → r ≤ x + k → resR lad r (k + 1) x = resR lad r k x
  | 0, x, h0, hk => by rw [resR_s, if_neg (by omega)]; rfl
  | k + 1, x, h0, hk => by
    have := byR_bd h h0
    rw [resR_s lad r (k + 1) x, resR_s lad r k x]
    by_cases hn : x < r
    · rw [if_pos hn, if_pos hn, resR_fuel h r k _ (by unfold nx; omega) (by unfold nx; omega)]
    · rw [if_neg hn, if_neg hn]
theorem refR_step {lad : List RiseV} (h : LadOk lad) {m x : Int} (h0 : 0 ≤ x) (hm : m ≤ 100000) : refR lad m 100001 x = if nx lad x ≤ m then refR lad m 100001 (nx lad x) else x := by
  have := byR_bd h h0
  have hn : nx lad x = x + byR lad x := rfl
  rw [refR_s lad m 100000 x, refR_fuel h m 100000 (nx lad x) (by omega) (by omega)]
theorem resR_step {lad : List RiseV} (h : LadOk lad) {m x : Int} (h0 : 0 ≤ x) (hm : m ≤ 100000) : resR lad m 100001 x = if x < m then resR lad m 100001 (nx lad x) else x := by
  have := byR_bd h h0
  have hn : nx lad x = x + byR lad x := rfl
  rw [resR_s lad m 100000 x, resR_fuel h m 100000 (nx lad x) (by omega) (by omega)]
/-- the least rung that a lot is sold at -/
def leastR (st rv : Int) (lad : List RiseV) : Int := behF (rv - 1) (rgL lad st)
theorem leastR_eq {st rv : Int} {lad : List RiseV} (h : LotOk st rv lad) : (if 100000 < resR lad rv 100001 st then 0 else resR lad rv 100001 st) = leastR st rv lad :=
  resR_beh h.lad rv h.rv.2 100001 st h.st.1 (by have := h.st; omega)
/-- Rung and Next -/
def RungV (st rv : Int) (lad : List RiseV) (n : Int) : Int := if lotB st rv lad = true then rungR st lad n else 0
def RungE (st rv : Int) (lad : List RiseV) (n : Int) : Int := if lotB st rv lad = true then (if 0 < rungR st lad n then 0 else 4) else 60
def NextV (st rv : Int) (lad : List RiseV) (n : Int) : Int := if lotB st rv lad = true ∧ 0 < rungR st lad n ∧ rungR st lad n = n then behF n (rgL lad st) else 0
def NextE (st rv : Int) (lad : List RiseV) (n : Int) : Int := if lotB st rv lad = true then (if 0 < rungR st lad n ∧ rungR st lad n = n then (if 0 < behF n (rgL lad st) then 0 else 4) else 7) else 60
theorem rungE_60 {st rv : Int} {lad : List RiseV} {n : Int} (h : (RungE st rv lad n == 60) = true) : lotB st rv lad = false := by
  unfold RungE at h
  cases hb : lotB st rv lad with
  | false => rfl
  | true => rw [hb, if_pos rfl] at h; split at h <;> simp at h
theorem rungE_ok {st rv : Int} {lad : List RiseV} {n : Int} (h : (RungE st rv lad n == 60) = false) : lotB st rv lad = true := by
  unfold RungE at h
  cases hb : lotB st rv lad with
  | true => rfl
  | false => rw [hb] at h; simp at h
theorem next_no {st rv : Int} {lad : List RiseV} {n : Int} (hb : lotB st rv lad = true) (h : ((RungE st rv lad n != 0) || (RungV st rv lad n != n)) = true) : ¬ (0 < rungR st lad n ∧ rungR st lad n = n) := by
  unfold RungE RungV at h
  rw [hb, if_pos rfl, if_pos rfl] at h
  rintro ⟨h1, h2⟩
  rw [if_pos h1, h2] at h
  simp at h
theorem next_yes {st rv : Int} {lad : List RiseV} {n : Int} (hb : lotB st rv lad = true) (h : ((RungE st rv lad n != 0) || (RungV st rv lad n != n)) = false) : 0 < rungR st lad n ∧ rungR st lad n = n := by
  unfold RungE RungV at h
  rw [hb, if_pos rfl, if_pos rfl, Bool.or_eq_false_iff] at h
  obtain ⟨h1, h2⟩ := h
  refine ⟨?_, by simpa using h2⟩
  by_cases hp : 0 < rungR st lad n
  · exact hp
  · rw [if_neg hp] at h1; simp at h1
theorem rnext_no {st rv : Int} {lad : List RiseV} {n : Int} (hok : LotOk st rv lad) (h : ((decide (100000 < n) || (rungR st lad n != n)) || (n == 0)) = true) : ¬ (0 < rungR st lad n ∧ rungR st lad n = n) := by
  have := rung_bd hok n
  simp only [Bool.or_eq_true, decide_eq_true_eq, bne_iff_ne, beq_iff_eq] at h
  omega
theorem rnext_yes {st rv : Int} {lad : List RiseV} {n : Int} (hok : LotOk st rv lad) (h : ((decide (100000 < n) || (rungR st lad n != n)) || (n == 0)) = false) : 0 < rungR st lad n ∧ rungR st lad n = n := by
  have := rung_bd hok n
  simp only [Bool.or_eq_false_iff, decide_eq_false_iff_not, bne_eq_false_iff_eq, beq_eq_false_iff_ne] at h
  omega
theorem next_nx {st rv : Int} {lad : List RiseV} (h : LotOk st rv lad) {n : Int} (h0 : 0 < rungR st lad n) (h1 : rungR st lad n = n) : behF n (rgL lad st) = if nx lad n ≤ 100000 then nx lad n else 0 := by
  refine behL_next h.lad h.st.1 ?_
  rcases rungF_spec (n := n) (rgL lad st) 0 (rgL_asc h.lad h.st.1) with ⟨e, _⟩ | ⟨a, _, _⟩
  · unfold rungR at h0; rw [e] at h0; omega
  · unfold rungR at h1; rw [h1] at a; exact a
end Go.Proofs.YtppfniekcgnmjaaGreat.Au
