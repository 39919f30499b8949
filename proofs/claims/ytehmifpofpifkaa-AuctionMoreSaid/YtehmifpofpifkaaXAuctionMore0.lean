/- Texts of ours, joined: 9 of them. Conditions: none. -/
import Derived.Test.YtehmifpofpifkaaZj
import Derived.Test.YtehmifpofpifkaaProg
import Derived.Laws.StructEq
namespace Go.Proofs.Ytehmifpofpifkaa
open Go Go.Sx Go.RowKit Am

theorem gD {l : List Int} {i : Nat} (h : i < l.length) : l[i]? = some (l.getD i 0) := by rw [List.getD_eq_getElem?_getD, List.getElem?_eq_getElem h]; rfl
theorem sig_gain {rows : List (List Int)} {ps res to : List Int} {i : Nat} (h : i < to.length) : gt (fun i j => wv res rows i j - (ps.getD j 0 - res.getD j 0)) i (sig to i) = gainF rows ps i (to.getD i 0) := by
  have hx := gD h
  unfold sig gainF
  rw [hx]
  by_cases h0 : 0 ≤ to.getD i 0
  · simp only [if_pos h0, gt]
    unfold wv rv
    omega
  · simp only [if_neg h0, gt]
theorem fairB_iff {res : List Int} {rows : List (List Int)} {ps to : List Int} (hok : OkL res.length to) (htl : to.length = rows.length) :
    fairB res rows ps to = true ↔ FairA rows.length res.length (wv res rows) (sig to) (fun k => ps.getD k 0 - res.getD k 0) := by
  have hv := sig_val hok
  rw [htl] at hv
  unfold fairB
  rw [Bool.and_eq_true, allN_iff, allN_iff]
  have h1 : ∀ k, k < res.length → (f1 res ps to k = true ↔ (0 ≤ ps.getD k 0 - res.getD k 0) ∧ ((∀ i, i < rows.length → sig to i ≠ some k) → ps.getD k 0 - res.getD k 0 = 0)) := fun k hk => by
    unfold f1
    rw [Bool.not_eq_true', Bool.or_eq_false_iff, decide_eq_false_iff_not, Bool.and_eq_false_iff, decide_eq_false_iff_not, Bool.not_eq_false']
    rw [sold_iff, htl]
    constructor
    · rintro ⟨a, b⟩
      refine ⟨by omega, fun hn => ?_⟩
      rcases b with b | ⟨i, hi, e⟩
      · omega
      · exact absurd e (hn i hi)
    · rintro ⟨a, b⟩
      refine ⟨by omega, ?_⟩
      by_cases hs : ∃ i, i < rows.length ∧ sig to i = some k
      · exact .inr hs
      · exact .inl (by have := b (fun i hi e => hs ⟨i, hi, e⟩); omega)
  have h2 : ∀ i, i < rows.length → (f2 res.length rows ps to i = true ↔ 0 ≤ gt (fun i j => wv res rows i j - (ps.getD j 0 - res.getD j 0)) i (sig to i) ∧ ∀ j, j < res.length → wv res rows i j - (ps.getD j 0 - res.getD j 0) ≤ gt (fun i j => wv res rows i j - (ps.getD j 0 - res.getD j 0)) i (sig to i)) := fun i hi => by
    rw [sig_gain (by omega)]
    unfold f2
    rw [Bool.and_eq_true, decide_eq_true_iff, allN_iff]
    have e : ∀ j, f2j rows ps i (gainF rows ps i (to.getD i 0)) j = true ↔ wv res rows i j - (ps.getD j 0 - res.getD j 0) ≤ gainF rows ps i (to.getD i 0) := fun j => by
      unfold f2j
      rw [decide_eq_true_iff]
      unfold wv rv
      omega
    constructor
    · rintro ⟨a, b⟩; exact ⟨a, fun j hj => (e j).1 (b j (Nat.zero_le _) (by omega))⟩
    · rintro ⟨a, b⟩; exact ⟨a, fun j _ hj => (e j).2 (b j (by omega))⟩
  constructor
  · rintro ⟨a, b⟩
    refine ⟨hv, fun j hj => ((h1 j hj).1 (a j (Nat.zero_le _) (by omega))).1, fun j hj hn => ((h1 j hj).1 (a j (Nat.zero_le _) (by omega))).2 hn, fun i j hi e => ?_, fun i j hi hj => ((h2 i hi).1 (b i (Nat.zero_le _) (by omega))).2 j hj⟩
    have h3 := ((h2 i hi).1 (b i (Nat.zero_le _) (by omega))).1
    rw [e] at h3
    simp only [gt] at h3
    omega
  · intro h
    refine ⟨fun k _ hk => (h1 k (by omega)).2 ⟨h.nn k (by omega), h.un k (by omega)⟩, fun i _ hi => (h2 i (by omega)).2 ⟨?_, fun j hj => h.ef i j (by omega) hj⟩⟩
    have := h.gain (i := i) (by omega)
    exact this
theorem prices_len (res : List Int) (rows : List (List Int)) : (pricesL res rows).length = res.length := by simp [pricesL]
theorem prices_get (res : List Int) (rows : List (List Int)) {k : Nat} (hk : k < res.length) : (pricesL res rows).getD k 0 = priceC res rows k := by
  rw [List.getD_eq_getElem?_getD, pricesL, List.getElem?_map, List.getElem?_range hk]; rfl
/-- what is known of a closing -/
structure CloF (res : List Int) (rows : List (List Int)) : Prop where
  ok : OkL res.length (bestF res rows).1
  len : (bestF res rows).1.length = rows.length
  fair : FairA rows.length res.length (wv res rows) (sig (bestF res rows).1) (fun k => (pricesL res rows).getD k 0 - res.getD k 0)
  max : IsMax rows.length res.length (wv res rows) ((bestF res rows).2 - sumR res)
  pr : ∀ k, k < res.length → IsMax rows.length (res.length + 1) (dup res.length k (wv res rows)) (priceC res rows k - rv res k + ((bestF res rows).2 - sumR res))
  wt : wt rows.length (wv res rows) (sig (bestF res rows).1) = (bestF res rows).2 - sumR res
theorem fairA_congr {n m : Nat} {w : Nat → Nat → Int} {σ : Nat → Option Nat} {q q' : Nat → Int} (h : FairA n m w σ q) (e : ∀ j, j < m → q j = q' j) : FairA n m w σ q' := by
  have hg : ∀ i, i < n → gt (fun i j => w i j - q j) i (σ i) = gt (fun i j => w i j - q' j) i (σ i) := fun i hi => by
    cases hs : σ i with
    | none => rfl
    | some j => simp only [gt]; rw [e j (h.val.lot i j hi hs)]
  exact ⟨h.val, fun j hj => e j hj ▸ h.nn j hj, fun j hj hn => e j hj ▸ h.un j hj hn, fun i j hi hs => e j (h.val.lot i j hi hs) ▸ h.ir i j hi hs, fun i j hi hj => by rw [← e j hj, ← hg i hi]; exact h.ef i j hi hj⟩
theorem cloF {res : List Int} {rows : List (List Int)} (h : CloOk res rows) : CloF res rows := by
  obtain ⟨a, b, c, d, e⟩ := best_spec h.nn.1 h.nn.2
  have hp := fun k => price_max h.nn.1 h.nn.2 h.len k
  have hv := sig_val a
  rw [b] at hv
  have hf := fair_least d (fun k _ => hp k) hv e
  refine ⟨a, b, fairA_congr hf fun j hj => ?_, d, fun k _ => hp k, e⟩
  rw [prices_get res rows hj]
  unfold rv
  omega
/-- a price lies between the reserve and what somebody would give -/
theorem price_bdV {res : List Int} {rows : List (List Int)} (h : CloOk res rows) {k : Nat} (hk : k < res.length) {V : Int} (h1 : res.getD k 0 ≤ V) (h2 : ∀ i, i < rows.length → vv rows i k ≤ V) : res.getD k 0 ≤ priceC res rows k ∧ priceC res rows k ≤ V := by
  have hf := cloF h
  have a := hf.fair.nn k hk
  rw [prices_get res rows hk] at a
  have b := price_le hf.max (hf.pr k hk) (V := V - rv res k) (by unfold rv; omega) (fun i hi => by
    have := h2 i hi
    unfold wv rv; omega)
  unfold rv at b
  omega
theorem price_100 {res : List Int} {rows : List (List Int)} (h : CloOk res rows) {k : Nat} (hk : k < res.length) : 0 ≤ priceC res rows k ∧ priceC res rows k ≤ 100000 := by
  have hr := h.res _ (getD_mem (l := res) (d := 0) hk)
  have := price_bdV h hk (V := 100000) hr.2 (fun i hi => by
    unfold vv
    have h1 : rows[i]? = some (rows.getD i []) := by rw [List.getD_eq_getElem?_getD, List.getElem?_eq_getElem hi]; rfl
    have h2 := List.mem_of_getElem? h1
    have h3 := h.len _ h2
    exact (h.val _ h2 _ (getD_mem (by omega))).2)
  omega
theorem okF_of {m n : Nat} {to : List Int} (h : OkL m to) (hl : to.length = n) : fitsB m n to = true := by
  unfold fitsB
  rw [(okF_ok m to).2 h, decide_eq_true (by omega)]; rfl
theorem awB_clo {res : List Int} {vs : List ListV} (h : cloB res vs = true) : awB res vs (bestF res (rowsV vs)).1 (pricesL res (rowsV vs)) = true := by
  obtain ⟨hco, _, _⟩ := clo_ok h
  have hf := cloF hco
  unfold awB
  rw [okF_of hf.ok (by rw [hf.len, rowsV_len]), Bool.true_and, Bool.and_eq_true, beq_iff_eq, prices_len, List.all_eq_true]
  refine ⟨rfl, fun p hp => ?_⟩
  obtain ⟨k, hk, rfl⟩ := List.mem_map.1 hp
  exact btw_t.2 (price_100 hco (by simpa using hk))
/-- the award of Close is fair -/
theorem fair_clo {res : List Int} {vs : List ListV} (h : cloB res vs = true) : FairV res vs (CloA res vs).1 (CloA res vs).2 = true ∧ FairE res vs (CloA res vs).1 (CloA res vs).2 = 0 := by
  obtain ⟨hco, _, _⟩ := clo_ok h
  have hf := cloF hco
  obtain ⟨e, _⟩ := cloA_yes h
  rw [e]
  obtain ⟨e1, e2⟩ := fair_yes h (awB_clo h)
  refine ⟨?_, e2⟩
  rw [e1, fairB_iff hf.ok hf.len]
  exact hf.fair
theorem cloE_iff {res : List Int} {vs : List ListV} : cloE res vs = 0 ↔ cloB res vs = true := by
  unfold cloE
  split <;> simp_all
theorem fairE_ne {res : List Int} {vs : List ListV} {to ps : List Int} (h : cloB res vs = true) : FairE res vs to ps = 0 ∨ FairE res vs to ps = 63 := by
  unfold FairE
  rw [if_pos h]
  split
  · exact .inl rfl
  · exact .inr rfl
theorem fair_true {res : List Int} {vs : List ListV} {to ps : List Int} (h2 : FairV res vs to ps = true) : ps.length = res.length ∧ FairA (rowsV vs).length res.length (wv res (rowsV vs)) (sig to) (fun k => ps.getD k 0 - res.getD k 0) := by
  unfold FairV at h2
  rw [Bool.and_eq_true, Bool.and_eq_true] at h2
  obtain ⟨⟨hok, htl⟩, hpl, _⟩ := aw_ok h2.1.2
  exact ⟨hpl, (fairB_iff hok (by rw [htl, rowsV_len])).1 h2.2⟩
/-- no fair award has a lesser price -/
theorem least_price {res : List Int} {vs : List ListV} {to ps : List Int} (h : cloB res vs = true) (h2 : FairV res vs to ps = true) {k : Nat} (hk : k < res.length) : priceC res (rowsV vs) k ≤ ps.getD k 0 := by
  obtain ⟨hco, _, _⟩ := clo_ok h
  have hf := cloF hco
  obtain ⟨_, hfa⟩ := fair_true h2
  have := hfa.least hf.max (hf.pr k hk) hk
  unfold rv at this
  omega
/-- the award of Close is worth most -/
theorem most_worth {res : List Int} {vs : List ListV} {to : List Int} (h : cloB res vs = true) (h2 : WorE res vs to = 0) : WorV res vs to ≤ WorV res vs (CloA res vs).1 := by
  obtain ⟨hco, _, _⟩ := clo_ok h
  have hf := cloF hco
  have hy : fitsB res.length vs.length to = true := by
    unfold WorE at h2
    rw [if_pos h] at h2
    split at h2
    · assumption
    · cases h2
  obtain ⟨hok, htl⟩ := fits_ok hy
  obtain ⟨e, _⟩ := cloA_yes h
  rw [e]
  unfold WorV
  rw [if_pos ⟨h, hy⟩, if_pos ⟨h, okF_of hf.ok (by rw [hf.len, rowsV_len])⟩, worthP_eq hok, worthP_eq hf.ok, hf.len, hf.wt, htl]
  have hv := sig_val hok
  rw [htl, ← rowsV_len vs] at hv
  have := hf.max.le _ hv
  rw [rowsV_len] at this
  omega
theorem worE_clo {res : List Int} {vs : List ListV} (h : cloB res vs = true) : WorE res vs (CloA res vs).1 = 0 := by
  obtain ⟨hco, _, _⟩ := clo_ok h
  have hf := cloF hco
  obtain ⟨e, _⟩ := cloA_yes h
  rw [e]
  unfold WorE
  rw [if_pos h, if_pos (okF_of hf.ok (by rw [hf.len, rowsV_len]))]
theorem encLs_len (x : ListV) : (encLs x).length = 1 := rfl
theorem cloE_or (res : List Int) (vs : List ListV) : cloE res vs = 0 ∨ cloE res vs = 62 := by
  unfold cloE
  split
  · exact .inl rfl
  · exact .inr rfl
/-! ### What a bidder gains -/
def gainE (vals to ps : List Int) (i : Nat) : Int × Bool :=
  if to.length ≤ i then (0, false) else if to.getD i 0 = -1 then (0, true) else
  if !(btw 0 (to.getD i 0) ((ps.length : Int) - 1)) || decide ((vals.length : Int) ≤ to.getD i 0) then (0, false) else (vals.getD (to.getD i 0).toNat 0 - ps.getD (to.getD i 0).toNat 0, true)
theorem row_get {rows : List (List Int)} {i : Nat} {l : List Int} (h : rows[i]? = some l) (j : Nat) : vv rows i j = l.getD j 0 := by
  unfold vv
  rw [List.getD_eq_getElem?_getD (l := rows), h]; rfl
theorem gainE_ok {rows : List (List Int)} {vals to ps : List Int} {i m : Nat} (hr : rows[i]? = some vals) (hl : vals.length = m) (hp : ps.length = m) (hok : OkL m to) (hi : i < to.length) : gainE vals to ps i = (gainF rows ps i (to.getD i 0), true) := by
  have hx := hok.rng _ (getD_mem (l := to) (d := 0) hi)
  unfold gainE gainF
  rw [if_neg (by omega)]
  by_cases h1 : to.getD i 0 = -1
  · rw [if_pos h1, h1]; rfl
  · have e1 : btw 0 (to.getD i 0) ((ps.length : Int) - 1) = true := btw_t.2 (by omega)
    rw [if_neg h1, e1, decide_eq_false (by omega), row_get hr]
    simp only [Bool.not_true, Bool.or_false, Bool.false_eq_true, if_false]
    rw [if_pos (by omega)]
theorem gt_congr {f g : Nat → Nat → Int} {i : Nat} {s : Option Nat} (h : ∀ j, s = some j → f i j = g i j) : gt f i s = gt g i s := by
  cases s with
  | none => rfl
  | some j => exact h j rfl
theorem clo_sig {res : List Int} {rows : List (List Int)} (h : CloOk res rows) {res2 : List Int} {rows2 : List (List Int)} {i : Nat} (hi : i < rows.length) {M : Int} (hr : res2 = res) (hM : M = (bestF res rows).2 - sumR res) :
    gt (fun i j => wv res2 rows2 i j - (priceC res rows j - rv res j + M - M)) i (sig (bestF res rows).1 i) = gainF rows2 (pricesL res rows) i ((bestF res rows).1.getD i 0) := by
  subst hr
  have hf := cloF h
  have hv := sig_val hf.ok
  rw [hf.len] at hv
  rw [← sig_gain (res := res2) (by rw [hf.len]; exact hi)]
  refine gt_congr fun j hj => ?_
  have := hv.lot i j hi hj
  rw [prices_get res2 rows this]
  unfold rv
  omega
/-- nobody gains by a lie -/
theorem truth_gain {res : List Int} {rows rows2 : List (List Int)} (h : CloOk res rows) (h2 : CloOk res rows2) (hl : rows2.length = rows.length) {i : Nat} (hi : i < rows.length) (hne : ∀ k, k ≠ i → rows2[k]? = rows[k]?) :
    gainF rows (pricesL res rows2) i ((bestF res rows2).1.getD i 0) ≤ gainF rows (pricesL res rows) i ((bestF res rows).1.getD i 0) := by
  have hf := cloF h
  have hf2 := cloF h2
  have hv := sig_val hf.ok
  have hv2 := sig_val hf2.ok
  rw [hf.len] at hv
  rw [hf2.len, hl] at hv2
  have hm2 := hf2.max
  have hp2 := hf2.pr
  have hw2 := hf2.wt
  rw [hl] at hm2 hp2 hw2
  have := truth (w := wv res rows) (w' := wv res rows2) hi (fun k _ hk j => by
    have e : rows2.getD k [] = rows.getD k [] := by rw [List.getD_eq_getElem?_getD, List.getD_eq_getElem?_getD, hne k hk]
    unfold wv vv; rw [e]) hf.max hf.pr hv hf.wt hm2 hp2 hv2 hw2
  rw [clo_sig h hi rfl rfl, clo_sig h2 (by rw [hl]; exact hi) rfl rfl] at this
  exact this
theorem gain_nn {res : List Int} {rows : List (List Int)} (h : CloOk res rows) {i : Nat} (hi : i < rows.length) : 0 ≤ gainF rows (pricesL res rows) i ((bestF res rows).1.getD i 0) := by
  have hf := cloF h
  have := hf.fair.gain hi
  rw [sig_gain (by rw [hf.len]; exact hi)] at this
  exact this
theorem gainF_bd {rows : List (List Int)} {ps : List Int} {i : Nat} {x : Int} (h1 : ∀ r ∈ rows, ∀ v ∈ r, 0 ≤ v ∧ v ≤ 100000) (h2 : ∀ p ∈ ps, 0 ≤ p ∧ p ≤ 100000) : -100000 ≤ gainF rows ps i x ∧ gainF rows ps i x ≤ 100000 := by
  have g0 : ∀ (l : List Int), (∀ v ∈ l, 0 ≤ v ∧ v ≤ 100000) → ∀ k, 0 ≤ l.getD k 0 ∧ l.getD k 0 ≤ 100000 := fun l hl k => by
    by_cases hk : k < l.length
    · exact hl _ (getD_mem hk)
    · rw [List.getD_eq_getElem?_getD, List.getElem?_eq_none (by omega)]; simp
  unfold gainF
  split
  · have a := g0 ps h2 x.toNat
    have b : 0 ≤ vv rows i x.toNat ∧ vv rows i x.toNat ≤ 100000 := by
      unfold vv
      by_cases hi : i < rows.length
      · have h3 : rows[i]? = some (rows.getD i []) := by rw [List.getD_eq_getElem?_getD, List.getElem?_eq_getElem hi]; rfl
        exact g0 _ (h1 _ (List.mem_of_getElem? h3)) _
      · rw [show rows.getD i [] = [] by rw [List.getD_eq_getElem?_getD, List.getElem?_eq_none (by omega)]; rfl]; simp
    omega
  · omega
theorem prices_bd {res : List Int} {rows : List (List Int)} (h : CloOk res rows) : ∀ p ∈ pricesL res rows, 0 ≤ p ∧ p ≤ 100000 := fun p hp => by
  obtain ⟨k, hk, rfl⟩ := List.mem_map.1 hp
  exact price_100 h (by simpa using hk)
/-! ### One more bidder, a greater reserve -/
theorem wide_price {res : List Int} {rows : List (List Int)} {l : List Int} (h : CloOk res rows) (h2 : CloOk res (rows ++ [l])) {k : Nat} (hk : k < res.length) : priceC res rows k ≤ priceC res (rows ++ [l]) k := by
  have hf := cloF h
  have hf2 := cloF h2
  have hl : (rows ++ [l]).length = rows.length + 1 := by simp
  have hm2 := hf2.max
  have hp2 := hf2.pr k hk
  rw [hl] at hm2 hp2
  have hw : ∀ i j, i < rows.length → wv res rows i j = wv res (rows ++ [l]) i j := fun i j hi => by
    have e : rows.getD i [] = (rows ++ [l]).getD i [] := by rw [List.getD_eq_getElem?_getD, List.getD_eq_getElem?_getD, List.getElem?_append_left hi]
    unfold wv vv; rw [e]
  have := more_bidder (hf.max.congr fun i j hi _ => hw i j hi) ((hf.pr k hk).congr fun i j hi _ => by unfold dup; exact hw i _ hi) hm2 hp2
  omega
theorem dear_price {res : List Int} {rows : List (List Int)} {c : Nat} {v : Int} (h : CloOk res rows) (h2 : CloOk (res.set c v) rows) (hc : c < res.length) (hv : res.getD c 0 ≤ v) {k : Nat} (hk : k < res.length) : priceC res rows k ≤ priceC (res.set c v) rows k := by
  have hf := cloF h
  have hf2 := cloF h2
  have hl : (res.set c v).length = res.length := by simp
  have hm2 := hf2.max
  have hp2 := hf2.pr k (by omega)
  rw [hl] at hm2 hp2
  have hg : ∀ j, (res.set c v).getD j 0 = res.getD j 0 + (if j = c then v - res.getD c 0 else 0) := fun j => by
    rw [List.getD_eq_getElem?_getD, List.getElem?_set]
    by_cases e : c = j
    · subst e; rw [if_pos rfl, if_pos hc, if_pos rfl]; simp only [Option.getD_some]; omega
    · rw [if_neg e, if_neg (fun e2 => e e2.symm), List.getD_eq_getElem?_getD]; omega
  have := more_reserve (c := c) (d := v - res.getD c 0) (w' := wv (res.set c v) rows) (by omega) (fun i j => by unfold wv rv; rw [hg j]; omega) hf.max (hf.pr k hk) hm2 hp2
  have e := hg k
  unfold rv at this
  rw [e] at this
  omega
theorem clo_set {res : List Int} {rows : List (List Int)} {c : Nat} {v : Int} (h : CloOk res rows) (hv : 0 ≤ v ∧ v ≤ 100000) : ∀ x ∈ res.set c v, 0 ≤ x ∧ x ≤ 100000 := fun x hx => by
  rcases List.mem_or_eq_of_mem_set hx with h1 | h1
  · exact h.res x h1
  · rw [h1]; exact hv
theorem cloB_set {res : List Int} {vs : List ListV} {c : Nat} {v : Int} (h : cloB res vs = true) (hv : 0 ≤ v ∧ v ≤ 100000) : cloB (res.set c v) vs = true := by
  obtain ⟨hco, _, _⟩ := clo_ok h
  unfold cloB at h ⊢
  rw [Bool.and_eq_true, Bool.and_eq_true, Bool.and_eq_true] at h ⊢
  rw [List.length_set]
  refine ⟨⟨⟨h.1.1.1, List.all_eq_true.2 fun x hx => btw_t.2 (clo_set hco hv x hx)⟩, h.1.2⟩, h.2⟩
def mostV (rows : List (List Int)) (j : Nat) : List (List Int) → Int → Int
  | [], b => b
  | r :: l, b => mostV rows j l (if j < r.length then max b (r.getD j 0) else b)
end Go.Proofs.Ytehmifpofpifkaa
namespace Go.Proofs.Ytehmifpofpifkaa
open Go Go.Sx Go.RowKit Am

/-! ### Rings -/
theorem pw_of : ∀ m : Fin 256, ∀ k : Fin 8, popc m.val ≤ 1 → m.val.testBit k.val = true → m.val = 2 ^ k.val := by decide +kernel
theorem pc_of : ∀ m : Fin 256, (∀ k : Fin 8, m.val.testBit k.val = true → m.val = 2 ^ k.val) → popc m.val ≤ 1 := by decide +kernel
theorem one_of {m k : Nat} (hm : m < 256) (hk : k < 8) (h : popc m ≤ 1) (hb : m.testBit k = true) : m = 2 ^ k := pw_of ⟨m, hm⟩ ⟨k, hk⟩ h hb
theorem one_to {m : Nat} (hm : m < 256) (h : ∀ k, k < 8 → m.testBit k = true → m = 2 ^ k) : popc m ≤ 1 := pc_of ⟨m, hm⟩ (fun k hb => h k.val k.isLt hb)
theorem and_lt {n s : Nat} (h : n < 256) : n &&& s < 256 := Nat.lt_of_le_of_lt Nat.and_le_left h
theorem ringE_0 {past : List Int} {few : Int} (h : ringE past few = 0) : pastB past = true ∧ btw 1 few 64 = true := by
  unfold ringE at h
  split at h
  · rename_i h1
    split at h
    · rename_i h2; exact ⟨h1, h2⟩
    · cases h
  · cases h
theorem ringS_mem {ns : List Nat} {fw s : Nat} : s ∈ ringS ns fw ↔ s < 256 ∧ topB (ringB ns fw) s = true := by
  unfold ringS
  rw [(List.mergeSort_perm _ _).mem_iff]
  exact topL_mem
theorem ringS_nd (ns : List Nat) (fw : Nat) : (ringS ns fw).Nodup := by
  unfold ringS
  rw [(List.mergeSort_perm _ _).nodup_iff]
  exact (List.nodup_range.filter _).filter _
theorem ringS_ring {ns : List Nat} {fw s : Nat} (h : s ∈ ringS ns fw) : s < 256 ∧ ringB ns fw s = true := ⟨(ringS_mem.1 h).1, (topB_iff.1 (ringS_mem.1 h).2).1⟩
theorem ringS_apart {ns : List Nat} {fw i k a b : Nat} (ha : (ringS ns fw)[i]? = some a) (hb : (ringS ns fw)[k]? = some b) (hne : k ≠ i) : a &&& b ≠ a := by
  have h1 := (ringS_mem.1 (List.mem_of_getElem? ha)).2
  obtain ⟨h2, h3⟩ := ringS_ring (List.mem_of_getElem? hb)
  refine (topB_iff.1 h1).2 b h2 h3 (fun e => hne ?_)
  obtain ⟨i1, e1⟩ := List.getElem?_eq_some_iff.1 ha
  obtain ⟨k1, e2⟩ := List.getElem?_eq_some_iff.1 hb
  have hp := List.pairwise_iff_getElem.1 (ringS_nd ns fw)
  rcases Nat.lt_trichotomy i k with h | h | h
  · exact absurd (by rw [e1, e2, e]) (hp i k i1 k1 h)
  · exact h.symm
  · exact absurd (by rw [e1, e2, e]) (hp k i k1 i1 h)
theorem ringS_all {ns : List Nat} {fw s : Nat} (hs : s < 256) (h : ringB ns fw s = true) : ∃ i t : Nat, (ringS ns fw)[i]? = some t ∧ t &&& s = s := by
  obtain ⟨t, h1, h2, h3⟩ := exists_top (ringB ns fw) 8 s hs h (by omega)
  obtain ⟨i, hi⟩ := List.mem_iff_getElem?.1 (ringS_mem.2 ⟨h1, h2⟩ : t ∈ ringS ns fw)
  exact ⟨i, t, hi, by rw [and_comm']; exact h3⟩
/-! ### Another order -/
theorem encBi_len (x : BidV) : (encBi x).length = 3 := rfl
def mixAt (bits : List Int) (i : Nat) : Nat := (ringI (pickI bits i) ((i : Int) + 1)).toNat
def mixS (bits : List Int) (out : List BidV) (i : Nat) (b : BidV) : List BidV := (out.take (mixAt bits i) ++ [b]) ++ out.drop (mixAt bits i)
def mixG (bits : List Int) : List BidV → Nat → List BidV → List BidV
  | [], _, out => out
  | b :: l, i, out => mixG bits l (i + 1) (mixS bits out i b)
theorem mixG_drop (bits : List Int) (bs out : List BidV) (k : Nat) (b : BidV) (h : bs[k]? = some b) : mixG bits (bs.drop k) k out = mixG bits (bs.drop (k + 1)) (k + 1) (mixS bits out k b) := by
  obtain ⟨h1, h2⟩ := List.getElem?_eq_some_iff.1 h
  rw [List.drop_eq_getElem_cons h1, h2, mixG]
theorem mixS_perm (bits : List Int) (out : List BidV) (i : Nat) (b : BidV) : (mixS bits out i b).Perm (out ++ [b]) := by
  unfold mixS
  have h1 : ((out.take (mixAt bits i) ++ [b]) ++ out.drop (mixAt bits i)).Perm ((out.take (mixAt bits i) ++ out.drop (mixAt bits i)) ++ [b]) := by
    rw [List.append_assoc, List.append_assoc]
    exact List.Perm.append_left _ List.perm_append_comm
  rw [List.take_append_drop] at h1
  exact h1
theorem mixS_len (bits : List Int) (out : List BidV) (i : Nat) (b : BidV) : (mixS bits out i b).length = out.length + 1 := by rw [(mixS_perm bits out i b).length_eq]; simp
theorem mixG_perm (bits : List Int) : ∀ (l : List BidV) (i : Nat) (out : List BidV), (mixG bits l i out).Perm (out ++ l)
  | [], _, out => by rw [List.append_nil]; exact .refl _
  | b :: l, i, out => by
    have h1 := mixG_perm bits l (i + 1) (mixS bits out i b)
    refine h1.trans ?_
    have h2 := (mixS_perm bits out i b).append_right l
    rw [List.append_assoc] at h2
    exact h2
theorem mixed_perm (bits : List Int) (bs : List BidV) : (mixG bits bs 0 []).Perm bs := mixG_perm bits bs 0 []
theorem mixAt_bd (bits : List Int) (i : Nat) : ringI (pickI bits i) ((i : Int) + 1) = (mixAt bits i : Int) ∧ mixAt bits i ≤ i := by
  have := ringI_bd (pickI bits i) ((i : Int) + 1) (by omega)
  unfold mixAt
  omega
theorem bidsB_perm {bs cs : List BidV} (h : cs.Perm bs) : bidsB cs = bidsB bs := by
  unfold bidsB
  rw [h.length_eq]
  congr 1
  rw [Bool.eq_iff_iff, List.all_eq_true, List.all_eq_true]
  exact ⟨fun h1 x hx => h1 x (h.mem_iff.2 hx), fun h1 x hx => h1 x (h.mem_iff.1 hx)⟩
theorem sellE_perm {st rv : Int} {lad : List RiseV} {bs cs : List BidV} (h : cs.Perm bs) : SellE st rv lad cs = SellE st rv lad bs := by unfold SellE; rw [bidsB_perm h]
theorem offs_perm {rs : List Int} {bs cs : List BidV} (h : cs.Perm bs) : (offs rs cs).Perm (offs rs bs) := (h.map _).filter _
theorem offs_pos {rs : List Int} {bs : List BidV} : ∀ o ∈ offs rs bs, 1 ≤ o.most := fun o ho => by
  have := (List.mem_filter.1 ho).2
  have := of_decide_eq_true this
  omega
theorem sellV_perm {st rv : Int} {lad : List RiseV} {bs cs : List BidV} (h : cs.Perm bs) : SellV st rv lad cs = SellV st rv lad bs := by
  unfold SellV
  rw [bidsB_perm h, knock_perm (offs_perm h) offs_pos]
theorem roomL_len_perm {st rv : Int} {lad : List RiseV} {bs cs : List BidV} (h : cs.Perm bs) : (RoomL st rv lad cs).length = (RoomL st rv lad bs).length := by
  unfold RoomL
  rw [bidsB_perm h]
  split
  · rw [roomG_len, roomG_len, h.length_eq]
  · rfl
theorem sellE_0 {st rv : Int} {lad : List RiseV} {bs : List BidV} (h : SellE st rv lad bs = 0) : lotB st rv lad = true ∧ bidsB bs = true := by
  unfold SellE at h
  split at h
  · rename_i h1
    split at h
    · rename_i h2; exact ⟨h1, h2⟩
    · cases h
  · cases h
theorem sellE_ne {st rv : Int} {lad : List RiseV} {bs : List BidV} (h : SellE st rv lad bs ≠ 0) : SellV st rv lad bs = ⟨0, 0⟩ := by
  unfold SellV
  rw [if_neg]
  rintro ⟨h1, h2⟩
  apply h
  unfold SellE
  rw [if_pos h1, if_pos h2]
theorem room_nil {st rv : Int} {lad : List RiseV} {bs : List BidV} (h : SellE st rv lad bs = 0) (h2 : (RoomL st rv lad bs).length = 0) : SellV st rv lad bs = ⟨-1, 0⟩ := by
  obtain ⟨h3, h4⟩ := sellE_0 h
  unfold RoomL at h2
  rw [if_pos ⟨h3, h4⟩, roomG_len] at h2
  have : bs = [] := List.eq_nil_of_length_eq_zero h2
  subst this
  unfold SellV
  rw [if_pos ⟨h3, h4⟩]
  rfl
theorem room_last {st rv : Int} {lad : List RiseV} {bs : List BidV} (h : SellE st rv lad bs = 0) {n : Nat} (hn : n + 1 = (RoomL st rv lad bs).length) : (RoomL st rv lad bs)[n]? = some (roomE (rgL lad st) st bs) := by
  obtain ⟨h3, h4⟩ := sellE_0 h
  unfold RoomL at hn ⊢
  rw [if_pos ⟨h3, h4⟩] at hn ⊢
  rw [roomG_len] at hn
  rw [roomG_get (rgL lad st) st bs lead0 n (by omega), List.take_of_length_le (by omega)]
  rfl
theorem room_last_perm {st rv : Int} {lad : List RiseV} {bs cs : List BidV} (hp : cs.Perm bs) (h : SellE st rv lad bs = 0) {n : Nat} (hn : n + 1 = (RoomL st rv lad bs).length) : (RoomL st rv lad cs)[n]? = some (roomE (rgL lad st) st bs) := by
  have h2 : SellE st rv lad cs = 0 := by rw [sellE_perm hp]; exact h
  rw [room_last h2 (by rw [roomL_len_perm hp]; exact hn)]
  obtain ⟨_, h4⟩ := sellE_0 h2
  rw [lead_perm hp (fun b hb => ((bids_ok h4).2 b hb).1)]
theorem sell_lead {st rv : Int} {lad : List RiseV} {bs : List BidV} (h : SellE st rv lad bs = 0) :
    SellV st rv lad bs = if (roomE (rgL lad st) st bs).who = -1 ∨ leastR st rv lad = 0 ∨ (roomE (rgL lad st) st bs).limit < leastR st rv lad then ⟨-1, 0⟩ else ⟨(roomE (rgL lad st) st bs).who, max (leastR st rv lad) (roomE (rgL lad st) st bs).price⟩ := by
  obtain ⟨h3, h4⟩ := sellE_0 h
  unfold SellV
  rw [if_pos ⟨h3, h4⟩]
  exact knock_lead bs (fun b hb => ((bids_ok h4).2 b hb).1)
theorem floorR {st rv : Int} {lad : List RiseV} (h : lotB st rv lad = true) : floorF (rgL lad st) st rv = (leastR st rv lad, !(leastR st rv lad == 0)) := by
  have hok := lot_ok h
  exact floor_eq hok.lad hok.st.1 hok.st.2
theorem rung_idem {st rv : Int} {lad : List RiseV} (h : LotOk st rv lad) {n : Int} (hp : 0 < rungR st lad n) : rungR st lad (rungR st lad n) = rungR st lad n := by
  have ha := rgL_asc h.lad h.st.1
  unfold rungR at hp ⊢
  rcases rungF_spec (n := n) (rgL lad st) 0 ha with ⟨e, _⟩ | ⟨h1, _, _⟩
  · omega
  · rcases rungF_spec (n := rungF n (rgL lad st) 0) (rgL lad st) 0 ha with ⟨_, h3⟩ | ⟨_, h4, h5⟩
    · exact absurd (h3 _ h1) (by omega)
    · have := h5 _ h1 (Int.le_refl _); omega
/-! ### What is paid -/
theorem behF_gt {n : Int} : ∀ (rs : List Int), behF n rs = 0 ∨ n < behF n rs
  | [] => .inl rfl
  | p :: l => by
    rw [behF]
    split
    · rename_i h; exact .inr h
    · exact behF_gt l
theorem behF_mono {n m : Int} (hnm : n ≤ m) : ∀ (rs : List Int), rs.Pairwise (· < ·) → behF m rs = 0 ∨ behF n rs ≤ behF m rs
  | [], _ => .inl rfl
  | p :: l, h => by
    have h1 := List.pairwise_cons.1 h
    rw [behF, behF]
    by_cases h2 : n < p
    · rw [if_pos h2]
      split
      · exact .inr (Int.le_refl _)
      · have hm : behF m l = 0 ∨ behF m l ∈ l := by
          have : ∀ (l : List Int), behF m l = 0 ∨ behF m l ∈ l := by
            intro l
            induction l with
            | nil => exact .inl rfl
            | cons q l ih =>
              rw [behF]
              split
              · exact .inr (List.mem_cons_self ..)
              · rcases ih with e | e
                · exact .inl e
                · exact .inr (List.mem_cons_of_mem _ e)
          exact this l
        rcases hm with e | e
        · exact .inl e
        · exact .inr (Int.le_of_lt (h1.1 _ e))
    · rw [if_neg h2, if_neg (by omega)]
      exact behF_mono hnm l h1.2
structure PayF (st rv : Int) (lad : List RiseV) (bs : List BidV) (own other : Int) : Prop where
  e1 : RungE st rv lad own = 0
  le : (SellV st rv lad bs).price ≤ RungV st rv lad own
  g1 : rv ≤ (SellV st rv lad bs).price
  g2 : st ≤ (SellV st rv lad bs).price
  o1 : RungV st rv lad other ≤ RungV st rv lad own
  o2 : RungV st rv lad other ≤ (SellV st rv lad bs).price
theorem pays {st rv : Int} {lad : List RiseV} {bs : List BidV} (h : SellE st rv lad bs = 0) (hw : (SellV st rv lad bs).winner ≠ -1) :
    PayF st rv lad bs (maxB (fun b => b.who == (SellV st rv lad bs).winner) bs 0) (maxB (fun b => !(b.who == (SellV st rv lad bs).winner)) bs 0) := by
  obtain ⟨h3, h4⟩ := sellE_0 h
  have hok := lot_ok h3
  have ha := rgL_asc hok.lad hok.st.1
  have hb := (bids_ok h4).2
  have e : SellV st rv lad bs = knockF (rgL lad st) st (leastR st rv lad) (offs (rgL lad st) bs) := by unfold SellV; rw [if_pos ⟨h3, h4⟩]
  rw [e] at hw ⊢
  obtain ⟨W, s, hW, hS, hs0, hsW, hl0, hlW, hk⟩ := knock_sold offs_pos hw
  rw [hk]
  have hWm := offs_rung ha hW.mem
  have hWp := ha.pos _ hWm
  have hr := own_rung ha hW (fun b hb' => (hb b hb').2.2.1)
  have ho := other_rung ha hS hs0
  have hp := price_bd ha (start := st) (by have := hok.st; omega) hWm (rgL_start hok.lad hok.st.1) hsW
  have hv : ∀ n, RungV st rv lad n = rungF n (rgL lad st) 0 := fun n => by unfold RungV rungR; rw [if_pos h3]
  have hlr := (behF_gt (n := rv - 1) (rgL lad st)).resolve_left hl0
  have hll : rv ≤ leastR st rv lad := by unfold leastR; omega
  refine ⟨?_, ?_, ?_, ?_, ?_, ?_⟩
  · unfold RungE rungR; rw [if_pos h3, hr, if_pos (by omega)]
  · rw [hv, hr, e, hk]; simp only; omega
  · rw [e, hk]; simp only; omega
  · rw [e, hk]; simp only; omega
  · rw [hv, hv, hr]; exact Int.le_trans ho hsW
  · rw [hv, e, hk]; have := ho; simp only; omega
theorem pays_more {st rv : Int} {lad : List RiseV} {bs : List BidV} {b : BidV} (h : SellE st rv lad bs = 0) (hw : (SellV st rv lad bs).winner ≠ -1) : (SellE st rv lad (bs ++ [b]) = 0 ∧ (SellV st rv lad (bs ++ [b])).winner ≠ -1 ∧ (SellV st rv lad bs).price ≤ (SellV st rv lad (bs ++ [b])).price) ∨ SellE st rv lad (bs ++ [b]) = 61 := by
  obtain ⟨h3, h4⟩ := sellE_0 h
  have hok := lot_ok h3
  have ha := rgL_asc hok.lad hok.st.1
  by_cases h5 : bidsB (bs ++ [b]) = true
  · left
    have e : SellV st rv lad bs = knockF (rgL lad st) st (leastR st rv lad) (offs (rgL lad st) bs) := by unfold SellV; rw [if_pos ⟨h3, h4⟩]
    have e2 : SellV st rv lad (bs ++ [b]) = knockF (rgL lad st) st (leastR st rv lad) (offs (rgL lad st) (bs ++ [b])) := by unfold SellV; rw [if_pos ⟨h3, h5⟩]
    rw [e] at hw
    rw [e, e2]
    refine ⟨by unfold SellE; rw [if_pos h3, if_pos h5], ?_⟩
    exact knock_more ha (by have := hok.st; omega) (rgL_start hok.lad hok.st.1) (fun c hc => ((bids_ok h4).2 c hc).1) ((bids_ok h5).2 b (by simp)).1.1 hw
  · right
    unfold SellE
    rw [if_pos h3, if_neg h5]
theorem lotB_rv {st rv rv2 : Int} {lad : List RiseV} (h : lotB st rv lad = true) (h2 : 0 ≤ rv2 ∧ rv2 ≤ 100000) : lotB st rv2 lad = true := by
  unfold lotB at h ⊢
  simp only [Bool.and_eq_true] at h ⊢
  exact ⟨⟨⟨⟨h.1.1.1.1, btw_t.2 h2⟩, h.1.1.2⟩, h.1.2⟩, h.2⟩
theorem pays_dear {st rv rv2 : Int} {lad : List RiseV} {bs : List BidV} (h : SellE st rv lad bs = 0) (hw : (SellV st rv lad bs).winner ≠ -1) (hr : rv ≤ rv2 ∧ rv2 ≤ 100000) : SellE st rv2 lad bs = 0 ∧ (SellV st rv2 lad bs = ⟨-1, 0⟩ ∨ (SellV st rv2 lad bs).winner = (SellV st rv lad bs).winner ∧ (SellV st rv lad bs).price ≤ (SellV st rv2 lad bs).price) := by
  obtain ⟨h3, h4⟩ := sellE_0 h
  have hok := lot_ok h3
  have ha := rgL_asc hok.lad hok.st.1
  have h5 := lotB_rv h3 (rv2 := rv2) (by have := hok.rv; omega)
  have e : SellV st rv lad bs = knockF (rgL lad st) st (leastR st rv lad) (offs (rgL lad st) bs) := by unfold SellV; rw [if_pos ⟨h3, h4⟩]
  have e2 : SellV st rv2 lad bs = knockF (rgL lad st) st (leastR st rv2 lad) (offs (rgL lad st) bs) := by unfold SellV; rw [if_pos ⟨h5, h4⟩]
  rw [e] at hw
  rw [e, e2]
  refine ⟨by unfold SellE; rw [if_pos h5, if_pos h4], ?_⟩
  refine knock_dear hw ?_
  unfold leastR
  exact behF_mono (by omega) _ ha.lt
theorem sell_none {st rv : Int} {lad : List RiseV} {bs : List BidV} (h : SellE st rv lad bs = 0) (hw : (SellV st rv lad bs).winner = -1) : (SellV st rv lad bs).price = 0 := by
  obtain ⟨h3, h4⟩ := sellE_0 h
  have e : SellV st rv lad bs = knockF (rgL lad st) st (leastR st rv lad) (offs (rgL lad st) bs) := by unfold SellV; rw [if_pos ⟨h3, h4⟩]
  rw [e] at hw ⊢
  exact knock_none (fun q hq => (offs_who (fun c hc => ((bids_ok h4).2 c hc).1) hq).1) hw
end Go.Proofs.Ytehmifpofpifkaa
namespace Go.Proofs.Ytehmifpofpifkaa
open Go.Sx Go.RowKit
set_option maxRecDepth 20000
theorem ne41 (a0 b0 : Int) (a1 b1 : Int) (a2 b2 : Int) (a3 b3 : Int) (a4 b4 : Int) (x y : Operand) (w : World) : (do eqGuard .neq 41 x y (.agg #[.int .i64 a0, .int .i64 a1, .int .i64 a2, .int .i64 a3, .int .i64 a4]) (.agg #[.int .i64 b0, .int .i64 b1, .int .i64 b2, .int .i64 b3, .int .i64 b4]); binOp .neq 41 (.agg #[.int .i64 a0, .int .i64 a1, .int .i64 a2, .int .i64 a3, .int .i64 a4]) (.agg #[.int .i64 b0, .int .i64 b1, .int .i64 b2, .int .i64 b3, .int .i64 b4]) : Sem Value).run Try.prog w = .ok (.bool (!((a0 == b0) && (a1 == b1) && (a2 == b2) && (a3 == b3) && (a4 == b4)))) w := by
  simp [go_sem, Try.eqGuardType41, Try.stoodInHeld41, Try.underlying41, Try.underlying3]
  try ((repeat' split) <;> simp_all)
end Go.Proofs.Ytehmifpofpifkaa
namespace Go.Proofs.Ytehmifpofpifkaa
open Go.Sx Go.RowKit
set_option maxRecDepth 20000

end Go.Proofs.Ytehmifpofpifkaa
namespace Go.Proofs.Ytehmifpofpifkaa
open Go.Sx Go.RowKit
set_option maxRecDepth 20000

end Go.Proofs.Ytehmifpofpifkaa
namespace Go.Proofs.Ytehmifpofpifkaa
open Go.Sx Go.RowKit
set_option maxRecDepth 20000
theorem el32 : ElemIs Try.prog 32 53 3 24 := ⟨⟨_, (.agg #[.int .i64 0, .int .i64 0, .int .i64 0]), Try.underlying32, Try.type53, by kernel_rfl, by kernel_rfl, by kernel_rfl, by kernel_rfl, by decide⟩⟩
theorem eq34 (a0 b0 : Int) (a1 b1 : Int) (x y : Operand) (w : World) : (do eqGuard .eql 34 x y (.agg #[.int .i64 a0, .int .i64 a1]) (.agg #[.int .i64 b0, .int .i64 b1]); binOp .eql 34 (.agg #[.int .i64 a0, .int .i64 a1]) (.agg #[.int .i64 b0, .int .i64 b1]) : Sem Value).run Try.prog w = .ok (.bool ((a0 == b0) && (a1 == b1))) w := by
  simp [go_sem, Try.eqGuardType34, Try.stoodInHeld34, Try.underlying34, Try.underlying3]
  try ((repeat' split) <;> simp_all)
end Go.Proofs.Ytehmifpofpifkaa
namespace Go.Proofs.Ytehmifpofpifkaa
open Go.Sx Go.RowKit
set_option maxRecDepth 20000
theorem fa34_0 : FieldIs Try.prog 34 0 0 1 false := ⟨⟨_, _, Try.underlying34, rfl, rfl, Try.sizeOf3, Try.isAgg3, by decide⟩⟩
theorem fa34_1 : FieldIs Try.prog 34 1 1 1 false := ⟨⟨_, _, Try.underlying34, rfl, rfl, Try.sizeOf3, Try.isAgg3, by decide⟩⟩
theorem fa55_0 : FieldIs Try.prog 55 0 0 3 true := ⟨⟨_, _, Try.underlying55, rfl, rfl, Try.sizeOf53, Try.isAgg53, by decide⟩⟩
theorem fa55_1 : FieldIs Try.prog 55 1 3 1 false := ⟨⟨_, _, Try.underlying55, rfl, rfl, Try.sizeOf3, Try.isAgg3, by decide⟩⟩
end Go.Proofs.Ytehmifpofpifkaa
namespace Go.Proofs.Ytehmifpofpifkaa
open Go.Sx Go.RowKit
set_option maxRecDepth 20000

end Go.Proofs.Ytehmifpofpifkaa
namespace Go.Proofs.Ytehmifpofpifkaa
open Go.Sx Go.RowKit Am
set_option maxRecDepth 20000
theorem k_PricesN (res : List Int) (Ar : Option Addr) (cr : Nat) (vs : List ListV) (Av : Option Addr) (cv : Nat) (n : Nat) (w : World) (hres : Rd w 1 enInt Ar res) (hvs : Rd w 1 encLs Av vs) (hgv : ∀ r ∈ vs, GoodL w r) (hn : n = res.length) : Calls Try.prog 34 #[.agg #[.slice Ar n cr, .slice Av vs.length cv]] w (fun e w' => ∃ A c, e = .returned (.tuple #[.slice A (CloA res vs).2.length c, .int .i64 (cloE res vs)]) ∧ Grow w w' ∧ Res w w' 1 enInt A (CloA res vs).2) := by
  subst hn
  exact k_Prices res Ar cr vs Av cv w hres hvs hgv

theorem k_OwnI (l : List Int) (A : Option Addr) (c : Nat) (w : World) (hl : Rd w 1 enInt A l) (h8 : l.length * 8 ≤ 140737488351232) : Calls Try.prog 36 #[.slice A l.length c] w (fun e w' => ∃ B d, e = .returned (.slice B l.length d) ∧ Grow w w' ∧ (ow 3 1 enInt B d l).P w' ∧ ∀ b, (ow 3 1 enInt B d l).fp b → w.heap.size ≤ b) := by
  refine enter_pure (args := [.slice A l.length c]) [sl (fun b => b < w.heap.size) 1 enInt A l] Try.func36 rfl (by rw [Try.ntmps36]; simp) (fun g hg => by simp at hg; subst hg; exact ⟨hl, fun _ h => h⟩) ?_
  refine cj_seq ?_
  refine cj_regionG (gj_step (y_assign rfl) rfl rfl rfl (gj_nil ?_))
  refine ej_th (cj_seq (cj_region ?_))
  refine oj_buildSlice (cs := []) [] Try.underlying43 Try.sizeOf3 Try.zeroValue3 rfl rfl (by kernel_rfl) (by kernel_rfl) rfl (fun b3 => ?_)
  refine oj_litOw (b := b3) (e := 3) (c := 0) (sz := 1) (enc := enInt) [] rfl rfl rfl (by unfold maxLen; simp) ?_
  refine oj_step (y_move rfl) rfl rfl rfl ?_
  refine oj_append (xs := ([] : List Int)) (c := 0) el43 (fun _ => rfl) enInt_one rfl rfl rfl (reads_sl) (by unfold maxLen; simp only [List.length_nil]; omega) (by simp only [List.length_nil]; omega) rfl (fun A5 c5 => ?_)
  refine oj_step (y_assign rfl) rfl rfl rfl ?_
  refine oj_nil ?_
  refine ej_th (cj_ret ?_)
  exact ej_ret1 rfl Try.results36 rfl (fun w' hp => ⟨A5, c5, by simp, hp.below, by have h9 := hp.resO (A := A5) (e := 3) (c := c5) (sz := 1) (enc := enInt) (xs := [] ++ l); simpa using h9⟩)

set_option maxHeartbeats 8000000 in
theorem k_AuctionMore (res : List Int) (Ar : Option Addr) (cr : Nat) (vs : List ListV) (Av : Option Addr) (cv : Nat) (to : List Int) (At : Option Addr) (ct : Nat) (n0 n1 : Int) (w : World) (hres : Rd w 1 enInt Ar res) (hvs : Rd w 1 encLs Av vs) (hgv : ∀ r ∈ vs, GoodL w r) (hto : Rd w 1 enInt At to) : Calls Try.prog 9 #[.agg #[.slice Ar res.length cr, .slice Av vs.length cv], .slice At to.length ct, .agg #[.int .i64 n0, .int .i64 n1]] w (fun e w' => e = .returned (.bool true) ∧ Grow w w') := by
  have hlr := hres.len
  have hlv := hvs.len
  refine enter_pure (args := [.agg #[.slice Ar res.length cr, .slice Av vs.length cv], .slice At to.length ct, .agg #[.int .i64 n0, .int .i64 n1]]) [sl (fun b => b < w.heap.size) 1 enInt Ar res, sl (fun b => b < w.heap.size) 1 encLs Av vs, sl (fun b => b < w.heap.size) 1 enInt At to] Try.func9 rfl (by rw [Try.ntmps9]; simp) (fun g hg => by simp at hg; rcases hg with rfl | rfl | rfl; exact ⟨hres, fun _ h => h⟩; exact ⟨hvs, fun _ h => h⟩; exact ⟨hto, fun _ h => h⟩) ?_
  refine cj_seq (cj_region ?_)
  refine oj_box rfl rfl rfl (fun b3 => ?_)
  refine oj_box rfl rfl rfl (fun b5 => ?_)
  refine oj_step (y_assign rfl) rfl rfl rfl ?_
  refine oj_nil ?_
  refine ej_th (cj_seq (cj_region ?_))
  refine oj_step (y_loadN Try.isAgg60 Try.sizeOf60 rfl) rfl rfl rfl ?_
  refine oj_callS (fun A c => .tuple #[.slice A (CloA res vs).2.length c, .int .i64 (cloE res vs)]) 1 enInt (CloA res vs).2 Try.call34 rfl (fun w hp => k_Prices res Ar cr vs Av cv w hp.rd hp.rd (fun r h => (hgv r h).mono hp.below)) rfl (fun A22 c22 fp22 hfp22 => ?_)
  refine oj_step (y_move rfl) rfl rfl rfl ?_
  refine oj_step (y_extract rfl rfl) rfl rfl rfl ?_
  refine oj_step (y_extract rfl rfl) rfl rfl rfl ?_
  refine oj_step (y_assign rfl) rfl rfl rfl ?_
  refine oj_step (y_assign rfl) rfl rfl rfl ?_
  refine oj_nil ?_
  refine ej_th (cj_seq (cj_seq ?_))
  refine cj_regionG (gj_step (y_move rfl) rfl rfl rfl (gj_step (y_neq rfl rfl) rfl rfl rfl (gj_step (y_move rfl) rfl rfl rfl (gj_g 4 27 31 rfl rfl rfl rfl (fun hg27 => gj_yes rfl rfl rfl (y_fa0 fa60_0 rfl) rfl rfl (gj_yes rfl rfl rfl (y_load1 Try.isAgg43 rfl rfl) rfl rfl (gj_yes rfl rfl rfl (y_lenA Try.underlying43 rfl) rfl rfl (gj_yes rfl rfl rfl (y_eql rfl rfl) rfl rfl (gj_nil rfl))))) (gj_step (y_or rfl rfl rfl) rfl rfl rfl (gj_nil ?_))))))
  refine ej_th ?_
  refine cj_cond rfl (fun h32 => ?_) (fun h32 => ?_)
  · have h32b := h32
    try simp only [sxb] at h32
    have hno : cloE res vs = 62 ∧ (CloA res vs).2 = [] := by
      rcases cloE_or res vs with h | h
      · exfalso
        obtain ⟨hco, hm, _⟩ := clo_ok (cloE_iff.1 h)
        simp at h32b
        rcases h32b with h1 | h1
        · exact h1 h
        · rw [h1] at hm; simp at hm
      · refine ⟨h, ?_⟩
        unfold CloA
        rw [if_neg (fun h1 => by rw [cloE_iff.2 h1] at h; cases h)]
    refine cj_seq ?_
    refine cj_regionG ?_
    refine gj_step (y_move rfl) rfl rfl rfl (gj_step (y_lenA Try.underlying43 rfl) rfl rfl rfl (gj_step (y_eql rfl rfl) rfl rfl rfl (gj_step (y_move rfl) rfl rfl rfl (?_))))
    refine gj_g 2 36 38 rfl rfl rfl rfl (fun hg36 => gj_yes rfl rfl rfl (y_move rfl) rfl rfl (gj_yes rfl rfl rfl (y_eql rfl rfl) rfl rfl (gj_nil rfl))) ?_
    refine gj_step (y_and rfl rfl rfl) rfl rfl rfl (gj_step (y_move rfl) rfl rfl rfl (?_))
    refine gj_g 1 40 41 rfl rfl rfl rfl (fun hg40 => gj_yes rfl rfl rfl (y_call Try.call21 rfl (fun w hp => k_works w)) rfl rfl (gj_nil rfl)) ?_
    refine gj_step (y_and rfl rfl rfl) rfl rfl rfl (gj_step (y_assign rfl) rfl rfl rfl (?_))
    refine gj_nil ?_
    refine ej_th (cj_ret (ej_then_ret ?_))
    refine ej_ret1 rfl Try.results9 rfl (fun w' hp => ⟨?_, hp.below⟩)
    rw [hno.1, hno.2]; rfl
  · have h32b := h32
    try simp only [sxb] at h32
    have hyes : cloB res vs = true := by simp at h32b; exact cloE_iff.1 h32b.1
    obtain ⟨hco, h5, hn⟩ := clo_ok hyes
    obtain ⟨ea, _⟩ := cloA_yes hyes
    have hcl : (CloA res vs).2.length = res.length := by rw [ea]; exact prices_len ..
    have hpx : ∀ j, j < res.length → (CloA res vs).2[j]? = some (priceC res (rowsV vs) j) := fun j hj => by rw [← prices_get res (rowsV vs) hj, ea]; exact gD (by rw [prices_len]; exact hj)
    have hgw : ∀ (r : ListV) (w2 : World), r ∈ (vs ++ [(⟨At, ct, to⟩ : ListV)]) → Grow w w2 → GoodL w2 r := fun r w2 hm hg => by
      rcases List.mem_append.1 hm with h | h
      · exact (hgv r h).mono hg
      · rw [List.mem_singleton.1 h]; exact hto.mono hg
    refine cj_skip (ej_th (cj_seq (cj_seq ?_)))
    refine cj_regionG (gj_step (y_move rfl) rfl rfl rfl (gj_step (y_lenA Try.underlying43 rfl) rfl rfl rfl (gj_step (y_fa0 fa60_0 rfl) rfl rfl rfl (gj_step (y_load1 Try.isAgg43 rfl rfl) rfl rfl rfl (gj_step (y_lenA Try.underlying43 rfl) rfl rfl rfl (gj_step (y_neq rfl rfl) rfl rfl rfl (gj_nil ?_)))))))
    refine ej_th ?_
    refine cj_cond rfl (fun h48 => ?_) (fun h48 => ?_)
    · exfalso
      rw [hcl] at h48
      simp at h48
    · have h48b := h48
      try simp only [sxb] at h48
      refine cj_skip (ej_th (cj_seq (cj_seq ?_)))
      refine cj_regionG (gj_step (y_assign rfl) rfl rfl rfl (gj_nil ?_))
      refine ej_th (cj_block ?_)
      refine cj_lpic (X := Nat) [(1, _), (3, _), (5, _), (7, _)] (fun j => j ≤ (CloA res vs).2.length) (fun j => [(9, .int .i64 (j : Nat))]) (fun j => (CloA res vs).2.length - j) 0 (Nat.zero_le _) ⟨rfl, rfl, rfl, rfl, rfl, trivial⟩ ?_
      rintro j hj
      dsimp only [List.cons_append, List.nil_append]
      refine cj_seq (cj_seq ?_)
      refine cj_regionG (gj_step (y_move rfl) rfl rfl rfl (gj_step (y_move rfl) rfl rfl rfl (gj_step (y_lenA Try.underlying43 rfl) rfl rfl rfl (gj_step (y_lss rfl rfl) rfl rfl rfl (gj_nil ?_)))))
      refine ej_th ?_
      refine cj_cond rfl (fun h52 => ?_) (fun h52 => ?_)
      · have h52b := h52
        try simp only [sxb] at h52
        have hj5 : j < res.length := by omega
        have hxj := gD hj5
        have hpj := hpx j hj5
        refine cj_skip (ej_th (cj_seq (cj_block (cj_seq ?_))))
        refine cj_regionG (gj_step (y_fa0 fa60_0 rfl) rfl rfl rfl (gj_step (y_load1 Try.isAgg43 rfl rfl) rfl rfl rfl (gj_step (y_move rfl) rfl rfl rfl (gj_step (y_ixR (reads_sl) Try.underlying43 Try.sizeOf3 rfl rfl (⟨by omega, by omega⟩)) rfl rfl rfl (gj_step (y_ld0 (reads_sl) Try.isAgg3 rfl (hxj) rfl) rfl rfl rfl (gj_step (y_assign rfl) rfl rfl rfl (gj_nil ?_)))))))
        refine ej_th (cj_seq (cj_seq ?_))
        refine cj_regionG (gj_step (y_assign rfl) rfl rfl rfl (gj_nil ?_))
        refine ej_th (cj_block ?_)
        refine cj_lpic (X := Nat × Int) [(9, _), (1, _), (3, _), (5, _), (7, _)] (fun ⟨i, m⟩ => i ≤ vs.length ∧ res.getD j 0 ≤ m ∧ ∀ a, a < i → vv (rowsV vs) a j ≤ m) (fun ⟨i, m⟩ => [(10, .int .i64 m), (11, .int .i64 (i : Nat))]) (fun ⟨i, m⟩ => vs.length - i) (0, res.getD j 0) (⟨Nat.zero_le _, Int.le_refl _, fun a ha => absurd ha (Nat.not_lt_zero a)⟩) ⟨rfl, rfl, rfl, rfl, rfl, rfl, rfl, trivial⟩ ?_
        rintro ⟨i, m⟩ ⟨hi, hm1, hm2⟩
        dsimp only [List.cons_append, List.nil_append]
        refine cj_seq (cj_seq ?_)
        refine cj_regionG (gj_step (y_move rfl) rfl rfl rfl (gj_step (y_fa fa60_1 rfl) rfl rfl rfl (gj_step (y_load1 Try.isAgg58 rfl rfl) rfl rfl rfl (gj_step (y_lenA Try.underlying58 rfl) rfl rfl rfl (gj_step (y_lss rfl rfl) rfl rfl rfl (gj_nil ?_))))))
        refine ej_th ?_
        refine cj_cond rfl (fun h64 => ?_) (fun h64 => ?_)
        · have h64b := h64
          try simp only [sxb] at h64
          obtain ⟨r, hr⟩ : ∃ r, vs[i]? = some r := ⟨_, List.getElem?_eq_getElem (by omega)⟩
          have hgr := hgv r (List.mem_of_getElem? hr)
          have hrl := hgr.len
          have hrg := rowsV_get hr
          have hrm : r.l.length = res.length := hco.len _ (List.mem_of_getElem? hrg)
          have hrj : r.l[j]? = some (vv (rowsV vs) i j) := by rw [row_get hrg]; exact gD (by omega)
          refine cj_rd hgr (fun _ h => h) ?_
          refine cj_skip (ej_th (cj_seq (cj_block (cj_seq ?_))))
          refine cj_regionG (gj_step (y_move rfl) rfl rfl rfl (gj_step (y_fa fa60_1 rfl) rfl rfl rfl (gj_step (y_load1 Try.isAgg58 rfl rfl) rfl rfl rfl (gj_step (y_move rfl) rfl rfl rfl (gj_step (y_ixR (reads_sl) Try.underlying58 Try.sizeOf43 rfl rfl (⟨by omega, by omega⟩)) rfl rfl rfl (gj_step (y_ld0 (reads_sl) Try.isAgg43 rfl (hr) rfl) rfl rfl rfl (gj_step (y_lenA Try.underlying43 rfl) rfl rfl rfl (gj_step (y_lss rfl rfl) rfl rfl rfl (gj_nil ?_)))))))))
          refine ej_th ?_
          refine cj_cond rfl (fun h74 => ?_) (fun h74 => ?_)
          · have h74b := h74
            try simp only [sxb] at h74
            refine cj_regionG (gj_step (y_move rfl) rfl rfl rfl (gj_step (y_fa fa60_1 rfl) rfl rfl rfl (gj_step (y_load1 Try.isAgg58 rfl rfl) rfl rfl rfl (gj_step (y_move rfl) rfl rfl rfl (gj_step (y_ixR (reads_sl) Try.underlying58 Try.sizeOf43 rfl rfl (⟨by omega, by omega⟩)) rfl rfl rfl (gj_step (y_ld0 (reads_sl) Try.isAgg43 rfl (hr) rfl) rfl rfl rfl (gj_step (y_move rfl) rfl rfl rfl (gj_step (y_ixR (reads_sl) Try.underlying43 Try.sizeOf3 rfl rfl (⟨by omega, by omega⟩)) rfl rfl rfl (gj_step (y_ld0 (reads_sl) Try.isAgg3 rfl (hrj) rfl) rfl rfl rfl (gj_step (y_max rfl rfl) rfl rfl rfl (gj_step (y_assign rfl) rfl rfl rfl (gj_nil ?_))))))))))))
            refine ej_blk (ej_th ?_)
            refine cj_regionG (gj_step (y_move rfl) rfl rfl rfl (gj_step (y_add rfl rfl (by omega)) rfl rfl rfl (gj_step (y_assign rfl) rfl rfl rfl (gj_nil ?_))))
            exact ej_nx (i + 1, max m (vv (rowsV vs) i j)) (by simp only; omega) ⟨by first | omega | (simp only; omega), by first | omega | (simp only; omega), fun a ha => by
              have ha : a < i + 1 := ha
              show vv (rowsV vs) a j ≤ max m (vv (rowsV vs) i j)
              by_cases e : a = i
              · rw [e]; omega
              · have := hm2 a (by omega); omega⟩ ⟨rfl, rfl, rfl, rfl, rfl, rfl, rfl, trivial⟩
          · exfalso
            rw [decide_eq_false_iff_not] at h74
            omega
        · have h64b := h64
          try simp only [sxb] at h64
          have hie : i = vs.length := by omega
          have hpb := price_bdV hco hj5 hm1 (fun a ha => hm2 a (by rw [rowsV_len] at ha; omega))
          refine cj_exit (ej_then_exit (ej_then_exit (ej_blk_hit (ej_th (cj_seq ?_)))))
          refine cj_draw (by kernel_rfl) (by kernel_rfl) ?_
          refine gj_step (y_fa0 fa60_0 rfl) rfl rfl rfl (gj_step (y_load1 Try.isAgg43 rfl rfl) rfl rfl rfl (gj_step (y_move rfl) rfl rfl rfl (gj_step (y_ixR (reads_sl) Try.underlying43 Try.sizeOf3 rfl rfl (⟨by omega, by omega⟩)) rfl rfl rfl (gj_step (y_ld0 (reads_sl) Try.isAgg3 rfl (hxj) rfl) rfl rfl rfl (gj_step (y_move rfl) rfl rfl rfl (gj_step (y_move rfl) rfl rfl rfl (gj_step (y_ixR (reads_sl) Try.underlying43 Try.sizeOf3 rfl rfl (⟨by omega, by omega⟩)) rfl rfl rfl (gj_step (y_ld0 (reads_sl) Try.isAgg3 rfl (hpj) rfl) rfl rfl rfl (gj_step (y_move rfl) rfl rfl rfl (?_))))))))))
          refine gj_step (y_call Try.call35 rfl (fun w hp => k_From _ _ _ w)) rfl rfl rfl ?_
          refine gj_step (y_not rfl) rfl rfl rfl (?_)
          refine gj_nil ?_
          refine ej_th ?_
          refine cj_cond rfl (fun h96 => ?_) (fun h96 => ?_)
          · rw [show (decide (res.getD j 0 ≤ (priceC res (rowsV vs) j)) && decide ((priceC res (rowsV vs) j) ≤ m)) = true by rw [Bool.and_eq_true, decide_eq_true_iff, decide_eq_true_iff]; exact hpb] at h96
            exact absurd h96 (by simp)
          · have h96b := h96
            try simp only [sxb] at h96
            refine cj_skip (ej_blk (ej_th ?_))
            refine cj_regionG (gj_step (y_move rfl) rfl rfl rfl (gj_step (y_add rfl rfl (by omega)) rfl rfl rfl (gj_step (y_assign rfl) rfl rfl rfl (gj_nil ?_))))
            exact ej_nx (j + 1) (by omega) (by omega) ⟨rfl, rfl, rfl, rfl, rfl, trivial⟩
      · have h52b := h52
        try simp only [sxb] at h52
        refine cj_exit (ej_then_exit (ej_then_exit (ej_blk_hit (ej_th ?_))))
        refine cj_cuti (X := Nat × Option Addr × Nat) [(3, _), (5, _), (7, _)] ⟨rfl, rfl, rfl, trivial⟩ (fun ⟨b12, Aw, cw⟩ => True) (fun ⟨b12, Aw, cw⟩ => [(12, .pointer (some ⟨b12, 0, none⟩))]) (fun ⟨b12, Aw, cw⟩ => [ow 43 1 encLs Aw cw (vs ++ [(⟨At, ct, to⟩ : ListV)]), ownB b12 (cellsB 60 [.slice Ar res.length cr, .slice Aw (vs ++ [(⟨At, ct, to⟩ : ListV)]).length cw]), ownB b5 (cellsB 25 [.int .i64 n0, .int .i64 n1]), ownB b3 (cellsB 60 [.slice Ar res.length cr, .slice Av vs.length cv])]) (fun ⟨b12, Aw, cw⟩ => [sl fp22 1 enInt A22 (CloA res vs).2, sl (fun b => b < w.heap.size) 1 enInt Ar res, sl (fun b => b < w.heap.size) 1 encLs Av vs, sl (fun b => b < w.heap.size) 1 enInt At to]) ?_ ?_
        · refine cj_plan 12 (by kernel_rfl) (by kernel_rfl) ?_
          refine pl_y 0 rfl (y_fa0 fa60_0 rfl) rfl rfl rfl rfl (by kernel_rfl) ?_
          refine pl_y 1 rfl (y_load1 Try.isAgg43 rfl rfl) rfl rfl rfl rfl (by kernel_rfl) ?_
          refine pl_y 3 rfl (y_fa fa60_1 rfl) rfl rfl rfl rfl (by kernel_rfl) ?_
          refine pl_y 4 rfl (y_load1 Try.isAgg58 rfl rfl) rfl rfl rfl rfl (by kernel_rfl) ?_
          refine pl_y 6 rfl (y_move rfl) rfl rfl rfl rfl (by kernel_rfl) ?_
          refine pl_w3 2 7 10 (by kernel_rfl) rfl rfl (pl_fire rfl rfl rfl (by kernel_rfl) ?_) (pl_fire rfl rfl rfl (by kernel_rfl) ?_) (pl_fire rfl rfl rfl (by kernel_rfl) ?_)
          · refine oj_buildSlice (cs := []) [] Try.underlying58 Try.sizeOf43 Try.zeroValue43 rfl rfl (by kernel_rfl) (by kernel_rfl) rfl (fun b99 => ?_)
            refine oj_litOw (b := b99) (e := 43) (c := 0) (sz := 1) (enc := encLs) [] rfl rfl rfl (by unfold maxLen; simp) ?_
            refine oj_nil ?_
            refine ej_pl (lt_y (y_move rfl) rfl (lt_y (y_load1 Try.isAgg58 rfl rfl) rfl (lt_y (y_fa fa60_1 rfl) rfl (lt_y (y_load1 Try.isAgg43 rfl rfl) rfl (lt_y (y_fa0 fa60_0 rfl) rfl (lt_nil)))))) ?_
            refine pl_w3 5 7 10 (by kernel_rfl) rfl rfl (pl_fire rfl rfl rfl (by kernel_rfl) ?_) (pl_fire rfl rfl rfl (by kernel_rfl) ?_) (pl_fire rfl rfl rfl (by kernel_rfl) ?_)
            · refine oj_append (xs := ([] : List ListV)) (c := 0) el58 (fun _ => rfl) encLs_one rfl rfl rfl (reads_sl) (by unfold maxLen; simp only [List.length_nil]; omega) (by simp only [List.length_nil]; omega) rfl (fun A102 c102 => ?_)
              refine oj_nil ?_
              refine ej_pl (lt_y (y_move rfl) rfl (lt_w (by kernel_rfl) (lt_y (y_fa fa60_1 rfl) rfl (lt_y (y_load1 Try.isAgg43 rfl rfl) rfl (lt_y (y_fa0 fa60_0 rfl) rfl (lt_nil)))))) ?_
              refine pl_w2 7 10 (by kernel_rfl) rfl rfl (pl_fire rfl rfl rfl (by kernel_rfl) ?_) (pl_fire rfl rfl rfl (by kernel_rfl) ?_)
              · refine oj_buildSlice (cs := [.slice At to.length ct]) [.slice none 0 0] Try.underlying58 Try.sizeOf43 Try.zeroValue43 rfl rfl (by kernel_rfl) (by kernel_rfl) rfl (fun b104 => ?_)
                refine oj_nil ?_
                refine ej_pl (lt_w (by kernel_rfl) (lt_y (y_load1 Try.isAgg58 rfl rfl) rfl (lt_y (y_fa fa60_1 rfl) rfl (lt_y (y_load1 Try.isAgg43 rfl rfl) rfl (lt_y (y_fa0 fa60_0 rfl) rfl (lt_nil)))))) ?_
                refine pl_w2 8 10 (by kernel_rfl) rfl rfl (pl_fire rfl rfl rfl (by kernel_rfl) ?_) (pl_fire rfl rfl rfl (by kernel_rfl) ?_)
                · refine oj_append  el58 (fun _ => rfl) encLs_one rfl rfl rfl (reads_lit [(⟨At, ct, to⟩ : ListV)] (fun _ => rfl) rfl) (by unfold maxLen; simp only [List.length_nil, List.length_append, List.length_cons]; omega) (by simp only [List.length_nil, List.length_append, List.length_cons]; omega) rfl (fun A105 c105 => ?_)
                  refine oj_nil ?_
                  refine ej_pl (lt_y (y_move rfl) rfl (lt_y (y_load1 Try.isAgg58 rfl rfl) rfl (lt_y (y_fa fa60_1 rfl) rfl (lt_y (y_load1 Try.isAgg43 rfl rfl) rfl (lt_y (y_fa0 fa60_0 rfl) rfl (lt_nil)))))) ?_
                  refine pl_y 9 rfl (y_build (cs := [.slice Ar res.length cr, .slice A105 ((([] : List ListV) ++ vs) ++ [(⟨At, ct, to⟩ : ListV)]).length c105]) st60 rfl (by kernel_rfl)) rfl rfl rfl rfl (by kernel_rfl) ?_
                  refine pl_w1 10 (by kernel_rfl) rfl rfl (pl_fire rfl rfl rfl (by kernel_rfl) ?_)
                  refine oj_alloc Try.zeroValue60 rfl rfl (fun b12 => ?_)
                  refine oj_nil ?_
                  refine ej_pl (lt_y (y_build (cs := [.slice Ar res.length cr, .slice A105 ((([] : List ListV) ++ vs) ++ [(⟨At, ct, to⟩ : ListV)]).length c105]) st60 rfl (by kernel_rfl)) rfl (lt_y (y_move rfl) rfl (lt_y (y_load1 Try.isAgg58 rfl rfl) rfl (lt_y (y_fa fa60_1 rfl) rfl (lt_y (y_load1 Try.isAgg43 rfl rfl) rfl (lt_y (y_fa0 fa60_0 rfl) rfl (lt_nil))))))) ?_
                  refine pl_w1 11 (by kernel_rfl) rfl rfl (pl_fire rfl rfl rfl (by kernel_rfl) ?_)
                  refine oj_store rfl rfl rfl rfl Try.sizeOf60 rfl ?_
                  refine oj_nil ?_
                  refine ej_pl (lt_w (by kernel_rfl) (lt_w (by kernel_rfl) (lt_w (by kernel_rfl) (lt_w (by kernel_rfl) (lt_w (by kernel_rfl) (lt_w (by kernel_rfl) (lt_nil))))))) ?_
                  refine pl_end (by kernel_rfl) ?_
                  refine ej_takes [ow 43 1 encLs A105 c105 ((([] : List ListV) ++ vs) ++ [(⟨At, ct, to⟩ : ListV)]), ownB b12 (cellsB 60 [.slice Ar res.length cr, .slice A105 ((([] : List ListV) ++ vs) ++ [(⟨At, ct, to⟩ : ListV)]).length c105]), ownB b5 (cellsB 25 [.int .i64 n0, .int .i64 n1]), ownB b3 (cellsB 60 [.slice Ar res.length cr, .slice Av vs.length cv])] ?_
                  refine ej_eqO [ow 43 1 encLs A105 c105 (vs ++ [(⟨At, ct, to⟩ : ListV)]), ownB b12 (cellsB 60 [.slice Ar res.length cr, .slice A105 (vs ++ [(⟨At, ct, to⟩ : ListV)]).length c105]), ownB b5 (cellsB 25 [.int .i64 n0, .int .i64 n1]), ownB b3 (cellsB 60 [.slice Ar res.length cr, .slice Av vs.length cv])] rfl ?_
                  exact ej_ct (b12, A105, c105) trivial ⟨rfl, rfl, rfl, rfl, trivial⟩
                · refine oj_alloc Try.zeroValue60 rfl rfl (fun b12 => ?_)
                  refine oj_nil ?_
                  refine ej_pl (lt_y (y_move rfl) rfl (lt_y (y_load1 Try.isAgg58 rfl rfl) rfl (lt_y (y_fa fa60_1 rfl) rfl (lt_y (y_load1 Try.isAgg43 rfl rfl) rfl (lt_y (y_fa0 fa60_0 rfl) rfl (lt_nil)))))) ?_
                  refine pl_w1 8 (by kernel_rfl) rfl rfl (pl_fire rfl rfl rfl (by kernel_rfl) ?_)
                  refine oj_append  el58 (fun _ => rfl) encLs_one rfl rfl rfl (reads_lit [(⟨At, ct, to⟩ : ListV)] (fun _ => rfl) rfl) (by unfold maxLen; simp only [List.length_nil, List.length_append, List.length_cons]; omega) (by simp only [List.length_nil, List.length_append, List.length_cons]; omega) rfl (fun A105 c105 => ?_)
                  refine oj_nil ?_
                  refine ej_pl (lt_y (y_move rfl) rfl (lt_y (y_load1 Try.isAgg58 rfl rfl) rfl (lt_y (y_fa fa60_1 rfl) rfl (lt_y (y_load1 Try.isAgg43 rfl rfl) rfl (lt_y (y_fa0 fa60_0 rfl) rfl (lt_nil)))))) ?_
                  refine pl_y 9 rfl (y_build (cs := [.slice Ar res.length cr, .slice A105 ((([] : List ListV) ++ vs) ++ [(⟨At, ct, to⟩ : ListV)]).length c105]) st60 rfl (by kernel_rfl)) rfl rfl rfl rfl (by kernel_rfl) ?_
                  refine pl_w1 11 (by kernel_rfl) rfl rfl (pl_fire rfl rfl rfl (by kernel_rfl) ?_)
                  refine oj_store rfl rfl rfl rfl Try.sizeOf60 rfl ?_
                  refine oj_nil ?_
                  refine ej_pl (lt_w (by kernel_rfl) (lt_w (by kernel_rfl) (lt_w (by kernel_rfl) (lt_w (by kernel_rfl) (lt_w (by kernel_rfl) (lt_w (by kernel_rfl) (lt_nil))))))) ?_
                  refine pl_end (by kernel_rfl) ?_
                  refine ej_takes [ow 43 1 encLs A105 c105 ((([] : List ListV) ++ vs) ++ [(⟨At, ct, to⟩ : ListV)]), ownB b12 (cellsB 60 [.slice Ar res.length cr, .slice A105 ((([] : List ListV) ++ vs) ++ [(⟨At, ct, to⟩ : ListV)]).length c105]), ownB b5 (cellsB 25 [.int .i64 n0, .int .i64 n1]), ownB b3 (cellsB 60 [.slice Ar res.length cr, .slice Av vs.length cv])] ?_
                  refine ej_eqO [ow 43 1 encLs A105 c105 (vs ++ [(⟨At, ct, to⟩ : ListV)]), ownB b12 (cellsB 60 [.slice Ar res.length cr, .slice A105 (vs ++ [(⟨At, ct, to⟩ : ListV)]).length c105]), ownB b5 (cellsB 25 [.int .i64 n0, .int .i64 n1]), ownB b3 (cellsB 60 [.slice Ar res.length cr, .slice Av vs.length cv])] rfl ?_
                  exact ej_ct (b12, A105, c105) trivial ⟨rfl, rfl, rfl, rfl, trivial⟩
              · refine oj_alloc Try.zeroValue60 rfl rfl (fun b12 => ?_)
                refine oj_nil ?_
                refine ej_pl (lt_y (y_move rfl) rfl (lt_y (y_load1 Try.isAgg58 rfl rfl) rfl (lt_y (y_fa fa60_1 rfl) rfl (lt_y (y_load1 Try.isAgg43 rfl rfl) rfl (lt_y (y_fa0 fa60_0 rfl) rfl (lt_nil)))))) ?_
                refine pl_w1 7 (by kernel_rfl) rfl rfl (pl_fire rfl rfl rfl (by kernel_rfl) ?_)
                refine oj_buildSlice (cs := [.slice At to.length ct]) [.slice none 0 0] Try.underlying58 Try.sizeOf43 Try.zeroValue43 rfl rfl (by kernel_rfl) (by kernel_rfl) rfl (fun b104 => ?_)
                refine oj_nil ?_
                refine ej_pl (lt_w (by kernel_rfl) (lt_y (y_load1 Try.isAgg58 rfl rfl) rfl (lt_y (y_fa fa60_1 rfl) rfl (lt_y (y_load1 Try.isAgg43 rfl rfl) rfl (lt_y (y_fa0 fa60_0 rfl) rfl (lt_nil)))))) ?_
                refine pl_w1 8 (by kernel_rfl) rfl rfl (pl_fire rfl rfl rfl (by kernel_rfl) ?_)
                refine oj_append  el58 (fun _ => rfl) encLs_one rfl rfl rfl (reads_lit [(⟨At, ct, to⟩ : ListV)] (fun _ => rfl) rfl) (by unfold maxLen; simp only [List.length_nil, List.length_append, List.length_cons]; omega) (by simp only [List.length_nil, List.length_append, List.length_cons]; omega) rfl (fun A105 c105 => ?_)
                refine oj_nil ?_
                refine ej_pl (lt_y (y_move rfl) rfl (lt_y (y_load1 Try.isAgg58 rfl rfl) rfl (lt_y (y_fa fa60_1 rfl) rfl (lt_y (y_load1 Try.isAgg43 rfl rfl) rfl (lt_y (y_fa0 fa60_0 rfl) rfl (lt_nil)))))) ?_
                refine pl_y 9 rfl (y_build (cs := [.slice Ar res.length cr, .slice A105 ((([] : List ListV) ++ vs) ++ [(⟨At, ct, to⟩ : ListV)]).length c105]) st60 rfl (by kernel_rfl)) rfl rfl rfl rfl (by kernel_rfl) ?_
                refine pl_w1 11 (by kernel_rfl) rfl rfl (pl_fire rfl rfl rfl (by kernel_rfl) ?_)
                refine oj_store rfl rfl rfl rfl Try.sizeOf60 rfl ?_
                refine oj_nil ?_
                refine ej_pl (lt_w (by kernel_rfl) (lt_w (by kernel_rfl) (lt_w (by kernel_rfl) (lt_w (by kernel_rfl) (lt_w (by kernel_rfl) (lt_w (by kernel_rfl) (lt_nil))))))) ?_
                refine pl_end (by kernel_rfl) ?_
                refine ej_takes [ow 43 1 encLs A105 c105 ((([] : List ListV) ++ vs) ++ [(⟨At, ct, to⟩ : ListV)]), ownB b12 (cellsB 60 [.slice Ar res.length cr, .slice A105 ((([] : List ListV) ++ vs) ++ [(⟨At, ct, to⟩ : ListV)]).length c105]), ownB b5 (cellsB 25 [.int .i64 n0, .int .i64 n1]), ownB b3 (cellsB 60 [.slice Ar res.length cr, .slice Av vs.length cv])] ?_
                refine ej_eqO [ow 43 1 encLs A105 c105 (vs ++ [(⟨At, ct, to⟩ : ListV)]), ownB b12 (cellsB 60 [.slice Ar res.length cr, .slice A105 (vs ++ [(⟨At, ct, to⟩ : ListV)]).length c105]), ownB b5 (cellsB 25 [.int .i64 n0, .int .i64 n1]), ownB b3 (cellsB 60 [.slice Ar res.length cr, .slice Av vs.length cv])] rfl ?_
                exact ej_ct (b12, A105, c105) trivial ⟨rfl, rfl, rfl, rfl, trivial⟩
            · refine oj_buildSlice (cs := [.slice At to.length ct]) [.slice none 0 0] Try.underlying58 Try.sizeOf43 Try.zeroValue43 rfl rfl (by kernel_rfl) (by kernel_rfl) rfl (fun b104 => ?_)
              refine oj_nil ?_
              refine ej_pl (lt_w (by kernel_rfl) (lt_y (y_load1 Try.isAgg58 rfl rfl) rfl (lt_y (y_fa fa60_1 rfl) rfl (lt_y (y_load1 Try.isAgg43 rfl rfl) rfl (lt_y (y_fa0 fa60_0 rfl) rfl (lt_nil)))))) ?_
              refine pl_w2 5 10 (by kernel_rfl) rfl rfl (pl_fire rfl rfl rfl (by kernel_rfl) ?_) (pl_fire rfl rfl rfl (by kernel_rfl) ?_)
              · refine oj_append (xs := ([] : List ListV)) (c := 0) el58 (fun _ => rfl) encLs_one rfl rfl rfl (reads_sl) (by unfold maxLen; simp only [List.length_nil]; omega) (by simp only [List.length_nil]; omega) rfl (fun A102 c102 => ?_)
                refine oj_nil ?_
                refine ej_pl (lt_y (y_move rfl) rfl (lt_w (by kernel_rfl) (lt_y (y_fa fa60_1 rfl) rfl (lt_y (y_load1 Try.isAgg43 rfl rfl) rfl (lt_y (y_fa0 fa60_0 rfl) rfl (lt_nil)))))) ?_
                refine pl_w2 8 10 (by kernel_rfl) rfl rfl (pl_fire rfl rfl rfl (by kernel_rfl) ?_) (pl_fire rfl rfl rfl (by kernel_rfl) ?_)
                · refine oj_append  el58 (fun _ => rfl) encLs_one rfl rfl rfl (reads_lit [(⟨At, ct, to⟩ : ListV)] (fun _ => rfl) rfl) (by unfold maxLen; simp only [List.length_nil, List.length_append, List.length_cons]; omega) (by simp only [List.length_nil, List.length_append, List.length_cons]; omega) rfl (fun A105 c105 => ?_)
                  refine oj_nil ?_
                  refine ej_pl (lt_y (y_move rfl) rfl (lt_y (y_load1 Try.isAgg58 rfl rfl) rfl (lt_y (y_fa fa60_1 rfl) rfl (lt_y (y_load1 Try.isAgg43 rfl rfl) rfl (lt_y (y_fa0 fa60_0 rfl) rfl (lt_nil)))))) ?_
                  refine pl_y 9 rfl (y_build (cs := [.slice Ar res.length cr, .slice A105 ((([] : List ListV) ++ vs) ++ [(⟨At, ct, to⟩ : ListV)]).length c105]) st60 rfl (by kernel_rfl)) rfl rfl rfl rfl (by kernel_rfl) ?_
                  refine pl_w1 10 (by kernel_rfl) rfl rfl (pl_fire rfl rfl rfl (by kernel_rfl) ?_)
                  refine oj_alloc Try.zeroValue60 rfl rfl (fun b12 => ?_)
                  refine oj_nil ?_
                  refine ej_pl (lt_y (y_build (cs := [.slice Ar res.length cr, .slice A105 ((([] : List ListV) ++ vs) ++ [(⟨At, ct, to⟩ : ListV)]).length c105]) st60 rfl (by kernel_rfl)) rfl (lt_y (y_move rfl) rfl (lt_y (y_load1 Try.isAgg58 rfl rfl) rfl (lt_y (y_fa fa60_1 rfl) rfl (lt_y (y_load1 Try.isAgg43 rfl rfl) rfl (lt_y (y_fa0 fa60_0 rfl) rfl (lt_nil))))))) ?_
                  refine pl_w1 11 (by kernel_rfl) rfl rfl (pl_fire rfl rfl rfl (by kernel_rfl) ?_)
                  refine oj_store rfl rfl rfl rfl Try.sizeOf60 rfl ?_
                  refine oj_nil ?_
                  refine ej_pl (lt_w (by kernel_rfl) (lt_w (by kernel_rfl) (lt_w (by kernel_rfl) (lt_w (by kernel_rfl) (lt_w (by kernel_rfl) (lt_w (by kernel_rfl) (lt_nil))))))) ?_
                  refine pl_end (by kernel_rfl) ?_
                  refine ej_takes [ow 43 1 encLs A105 c105 ((([] : List ListV) ++ vs) ++ [(⟨At, ct, to⟩ : ListV)]), ownB b12 (cellsB 60 [.slice Ar res.length cr, .slice A105 ((([] : List ListV) ++ vs) ++ [(⟨At, ct, to⟩ : ListV)]).length c105]), ownB b5 (cellsB 25 [.int .i64 n0, .int .i64 n1]), ownB b3 (cellsB 60 [.slice Ar res.length cr, .slice Av vs.length cv])] ?_
                  refine ej_eqO [ow 43 1 encLs A105 c105 (vs ++ [(⟨At, ct, to⟩ : ListV)]), ownB b12 (cellsB 60 [.slice Ar res.length cr, .slice A105 (vs ++ [(⟨At, ct, to⟩ : ListV)]).length c105]), ownB b5 (cellsB 25 [.int .i64 n0, .int .i64 n1]), ownB b3 (cellsB 60 [.slice Ar res.length cr, .slice Av vs.length cv])] rfl ?_
                  exact ej_ct (b12, A105, c105) trivial ⟨rfl, rfl, rfl, rfl, trivial⟩
                · refine oj_alloc Try.zeroValue60 rfl rfl (fun b12 => ?_)
                  refine oj_nil ?_
                  refine ej_pl (lt_y (y_move rfl) rfl (lt_y (y_load1 Try.isAgg58 rfl rfl) rfl (lt_y (y_fa fa60_1 rfl) rfl (lt_y (y_load1 Try.isAgg43 rfl rfl) rfl (lt_y (y_fa0 fa60_0 rfl) rfl (lt_nil)))))) ?_
                  refine pl_w1 8 (by kernel_rfl) rfl rfl (pl_fire rfl rfl rfl (by kernel_rfl) ?_)
                  refine oj_append  el58 (fun _ => rfl) encLs_one rfl rfl rfl (reads_lit [(⟨At, ct, to⟩ : ListV)] (fun _ => rfl) rfl) (by unfold maxLen; simp only [List.length_nil, List.length_append, List.length_cons]; omega) (by simp only [List.length_nil, List.length_append, List.length_cons]; omega) rfl (fun A105 c105 => ?_)
                  refine oj_nil ?_
                  refine ej_pl (lt_y (y_move rfl) rfl (lt_y (y_load1 Try.isAgg58 rfl rfl) rfl (lt_y (y_fa fa60_1 rfl) rfl (lt_y (y_load1 Try.isAgg43 rfl rfl) rfl (lt_y (y_fa0 fa60_0 rfl) rfl (lt_nil)))))) ?_
                  refine pl_y 9 rfl (y_build (cs := [.slice Ar res.length cr, .slice A105 ((([] : List ListV) ++ vs) ++ [(⟨At, ct, to⟩ : ListV)]).length c105]) st60 rfl (by kernel_rfl)) rfl rfl rfl rfl (by kernel_rfl) ?_
                  refine pl_w1 11 (by kernel_rfl) rfl rfl (pl_fire rfl rfl rfl (by kernel_rfl) ?_)
                  refine oj_store rfl rfl rfl rfl Try.sizeOf60 rfl ?_
                  refine oj_nil ?_
                  refine ej_pl (lt_w (by kernel_rfl) (lt_w (by kernel_rfl) (lt_w (by kernel_rfl) (lt_w (by kernel_rfl) (lt_w (by kernel_rfl) (lt_w (by kernel_rfl) (lt_nil))))))) ?_
                  refine pl_end (by kernel_rfl) ?_
                  refine ej_takes [ow 43 1 encLs A105 c105 ((([] : List ListV) ++ vs) ++ [(⟨At, ct, to⟩ : ListV)]), ownB b12 (cellsB 60 [.slice Ar res.length cr, .slice A105 ((([] : List ListV) ++ vs) ++ [(⟨At, ct, to⟩ : ListV)]).length c105]), ownB b5 (cellsB 25 [.int .i64 n0, .int .i64 n1]), ownB b3 (cellsB 60 [.slice Ar res.length cr, .slice Av vs.length cv])] ?_
                  refine ej_eqO [ow 43 1 encLs A105 c105 (vs ++ [(⟨At, ct, to⟩ : ListV)]), ownB b12 (cellsB 60 [.slice Ar res.length cr, .slice A105 (vs ++ [(⟨At, ct, to⟩ : ListV)]).length c105]), ownB b5 (cellsB 25 [.int .i64 n0, .int .i64 n1]), ownB b3 (cellsB 60 [.slice Ar res.length cr, .slice Av vs.length cv])] rfl ?_
                  exact ej_ct (b12, A105, c105) trivial ⟨rfl, rfl, rfl, rfl, trivial⟩
              · refine oj_alloc Try.zeroValue60 rfl rfl (fun b12 => ?_)
                refine oj_nil ?_
                refine ej_pl (lt_y (y_move rfl) rfl (lt_y (y_load1 Try.isAgg58 rfl rfl) rfl (lt_y (y_fa fa60_1 rfl) rfl (lt_y (y_load1 Try.isAgg43 rfl rfl) rfl (lt_y (y_fa0 fa60_0 rfl) rfl (lt_nil)))))) ?_
                refine pl_w1 5 (by kernel_rfl) rfl rfl (pl_fire rfl rfl rfl (by kernel_rfl) ?_)
                refine oj_append (xs := ([] : List ListV)) (c := 0) el58 (fun _ => rfl) encLs_one rfl rfl rfl (reads_sl) (by unfold maxLen; simp only [List.length_nil]; omega) (by simp only [List.length_nil]; omega) rfl (fun A102 c102 => ?_)
                refine oj_nil ?_
                refine ej_pl (lt_y (y_move rfl) rfl (lt_w (by kernel_rfl) (lt_y (y_fa fa60_1 rfl) rfl (lt_y (y_load1 Try.isAgg43 rfl rfl) rfl (lt_y (y_fa0 fa60_0 rfl) rfl (lt_nil)))))) ?_
                refine pl_w1 8 (by kernel_rfl) rfl rfl (pl_fire rfl rfl rfl (by kernel_rfl) ?_)
                refine oj_append  el58 (fun _ => rfl) encLs_one rfl rfl rfl (reads_lit [(⟨At, ct, to⟩ : ListV)] (fun _ => rfl) rfl) (by unfold maxLen; simp only [List.length_nil, List.length_append, List.length_cons]; omega) (by simp only [List.length_nil, List.length_append, List.length_cons]; omega) rfl (fun A105 c105 => ?_)
                refine oj_nil ?_
                refine ej_pl (lt_y (y_move rfl) rfl (lt_y (y_load1 Try.isAgg58 rfl rfl) rfl (lt_y (y_fa fa60_1 rfl) rfl (lt_y (y_load1 Try.isAgg43 rfl rfl) rfl (lt_y (y_fa0 fa60_0 rfl) rfl (lt_nil)))))) ?_
                refine pl_y 9 rfl (y_build (cs := [.slice Ar res.length cr, .slice A105 ((([] : List ListV) ++ vs) ++ [(⟨At, ct, to⟩ : ListV)]).length c105]) st60 rfl (by kernel_rfl)) rfl rfl rfl rfl (by kernel_rfl) ?_
                refine pl_w1 11 (by kernel_rfl) rfl rfl (pl_fire rfl rfl rfl (by kernel_rfl) ?_)
                refine oj_store rfl rfl rfl rfl Try.sizeOf60 rfl ?_
                refine oj_nil ?_
                refine ej_pl (lt_w (by kernel_rfl) (lt_w (by kernel_rfl) (lt_w (by kernel_rfl) (lt_w (by kernel_rfl) (lt_w (by kernel_rfl) (lt_w (by kernel_rfl) (lt_nil))))))) ?_
                refine pl_end (by kernel_rfl) ?_
                refine ej_takes [ow 43 1 encLs A105 c105 ((([] : List ListV) ++ vs) ++ [(⟨At, ct, to⟩ : ListV)]), ownB b12 (cellsB 60 [.slice Ar res.length cr, .slice A105 ((([] : List ListV) ++ vs) ++ [(⟨At, ct, to⟩ : ListV)]).length c105]), ownB b5 (cellsB 25 [.int .i64 n0, .int .i64 n1]), ownB b3 (cellsB 60 [.slice Ar res.length cr, .slice Av vs.length cv])] ?_
                refine ej_eqO [ow 43 1 encLs A105 c105 (vs ++ [(⟨At, ct, to⟩ : ListV)]), ownB b12 (cellsB 60 [.slice Ar res.length cr, .slice A105 (vs ++ [(⟨At, ct, to⟩ : ListV)]).length c105]), ownB b5 (cellsB 25 [.int .i64 n0, .int .i64 n1]), ownB b3 (cellsB 60 [.slice Ar res.length cr, .slice Av vs.length cv])] rfl ?_
                exact ej_ct (b12, A105, c105) trivial ⟨rfl, rfl, rfl, rfl, trivial⟩
            · refine oj_alloc Try.zeroValue60 rfl rfl (fun b12 => ?_)
              refine oj_nil ?_
              refine ej_pl (lt_y (y_move rfl) rfl (lt_y (y_load1 Try.isAgg58 rfl rfl) rfl (lt_y (y_fa fa60_1 rfl) rfl (lt_y (y_load1 Try.isAgg43 rfl rfl) rfl (lt_y (y_fa0 fa60_0 rfl) rfl (lt_nil)))))) ?_
              refine pl_w2 5 7 (by kernel_rfl) rfl rfl (pl_fire rfl rfl rfl (by kernel_rfl) ?_) (pl_fire rfl rfl rfl (by kernel_rfl) ?_)
              · refine oj_append (xs := ([] : List ListV)) (c := 0) el58 (fun _ => rfl) encLs_one rfl rfl rfl (reads_sl) (by unfold maxLen; simp only [List.length_nil]; omega) (by simp only [List.length_nil]; omega) rfl (fun A102 c102 => ?_)
                refine oj_nil ?_
                refine ej_pl (lt_y (y_move rfl) rfl (lt_w (by kernel_rfl) (lt_y (y_fa fa60_1 rfl) rfl (lt_y (y_load1 Try.isAgg43 rfl rfl) rfl (lt_y (y_fa0 fa60_0 rfl) rfl (lt_nil)))))) ?_
                refine pl_w1 7 (by kernel_rfl) rfl rfl (pl_fire rfl rfl rfl (by kernel_rfl) ?_)
                refine oj_buildSlice (cs := [.slice At to.length ct]) [.slice none 0 0] Try.underlying58 Try.sizeOf43 Try.zeroValue43 rfl rfl (by kernel_rfl) (by kernel_rfl) rfl (fun b104 => ?_)
                refine oj_nil ?_
                refine ej_pl (lt_w (by kernel_rfl) (lt_y (y_load1 Try.isAgg58 rfl rfl) rfl (lt_y (y_fa fa60_1 rfl) rfl (lt_y (y_load1 Try.isAgg43 rfl rfl) rfl (lt_y (y_fa0 fa60_0 rfl) rfl (lt_nil)))))) ?_
                refine pl_w1 8 (by kernel_rfl) rfl rfl (pl_fire rfl rfl rfl (by kernel_rfl) ?_)
                refine oj_append  el58 (fun _ => rfl) encLs_one rfl rfl rfl (reads_lit [(⟨At, ct, to⟩ : ListV)] (fun _ => rfl) rfl) (by unfold maxLen; simp only [List.length_nil, List.length_append, List.length_cons]; omega) (by simp only [List.length_nil, List.length_append, List.length_cons]; omega) rfl (fun A105 c105 => ?_)
                refine oj_nil ?_
                refine ej_pl (lt_y (y_move rfl) rfl (lt_y (y_load1 Try.isAgg58 rfl rfl) rfl (lt_y (y_fa fa60_1 rfl) rfl (lt_y (y_load1 Try.isAgg43 rfl rfl) rfl (lt_y (y_fa0 fa60_0 rfl) rfl (lt_nil)))))) ?_
                refine pl_y 9 rfl (y_build (cs := [.slice Ar res.length cr, .slice A105 ((([] : List ListV) ++ vs) ++ [(⟨At, ct, to⟩ : ListV)]).length c105]) st60 rfl (by kernel_rfl)) rfl rfl rfl rfl (by kernel_rfl) ?_
                refine pl_w1 11 (by kernel_rfl) rfl rfl (pl_fire rfl rfl rfl (by kernel_rfl) ?_)
                refine oj_store rfl rfl rfl rfl Try.sizeOf60 rfl ?_
                refine oj_nil ?_
                refine ej_pl (lt_w (by kernel_rfl) (lt_w (by kernel_rfl) (lt_w (by kernel_rfl) (lt_w (by kernel_rfl) (lt_w (by kernel_rfl) (lt_w (by kernel_rfl) (lt_nil))))))) ?_
                refine pl_end (by kernel_rfl) ?_
                refine ej_takes [ow 43 1 encLs A105 c105 ((([] : List ListV) ++ vs) ++ [(⟨At, ct, to⟩ : ListV)]), ownB b12 (cellsB 60 [.slice Ar res.length cr, .slice A105 ((([] : List ListV) ++ vs) ++ [(⟨At, ct, to⟩ : ListV)]).length c105]), ownB b5 (cellsB 25 [.int .i64 n0, .int .i64 n1]), ownB b3 (cellsB 60 [.slice Ar res.length cr, .slice Av vs.length cv])] ?_
                refine ej_eqO [ow 43 1 encLs A105 c105 (vs ++ [(⟨At, ct, to⟩ : ListV)]), ownB b12 (cellsB 60 [.slice Ar res.length cr, .slice A105 (vs ++ [(⟨At, ct, to⟩ : ListV)]).length c105]), ownB b5 (cellsB 25 [.int .i64 n0, .int .i64 n1]), ownB b3 (cellsB 60 [.slice Ar res.length cr, .slice Av vs.length cv])] rfl ?_
                exact ej_ct (b12, A105, c105) trivial ⟨rfl, rfl, rfl, rfl, trivial⟩
              · refine oj_buildSlice (cs := [.slice At to.length ct]) [.slice none 0 0] Try.underlying58 Try.sizeOf43 Try.zeroValue43 rfl rfl (by kernel_rfl) (by kernel_rfl) rfl (fun b104 => ?_)
                refine oj_nil ?_
                refine ej_pl (lt_w (by kernel_rfl) (lt_y (y_load1 Try.isAgg58 rfl rfl) rfl (lt_y (y_fa fa60_1 rfl) rfl (lt_y (y_load1 Try.isAgg43 rfl rfl) rfl (lt_y (y_fa0 fa60_0 rfl) rfl (lt_nil)))))) ?_
                refine pl_w1 5 (by kernel_rfl) rfl rfl (pl_fire rfl rfl rfl (by kernel_rfl) ?_)
                refine oj_append (xs := ([] : List ListV)) (c := 0) el58 (fun _ => rfl) encLs_one rfl rfl rfl (reads_sl) (by unfold maxLen; simp only [List.length_nil]; omega) (by simp only [List.length_nil]; omega) rfl (fun A102 c102 => ?_)
                refine oj_nil ?_
                refine ej_pl (lt_y (y_move rfl) rfl (lt_w (by kernel_rfl) (lt_y (y_fa fa60_1 rfl) rfl (lt_y (y_load1 Try.isAgg43 rfl rfl) rfl (lt_y (y_fa0 fa60_0 rfl) rfl (lt_nil)))))) ?_
                refine pl_w1 8 (by kernel_rfl) rfl rfl (pl_fire rfl rfl rfl (by kernel_rfl) ?_)
                refine oj_append  el58 (fun _ => rfl) encLs_one rfl rfl rfl (reads_lit [(⟨At, ct, to⟩ : ListV)] (fun _ => rfl) rfl) (by unfold maxLen; simp only [List.length_nil, List.length_append, List.length_cons]; omega) (by simp only [List.length_nil, List.length_append, List.length_cons]; omega) rfl (fun A105 c105 => ?_)
                refine oj_nil ?_
                refine ej_pl (lt_y (y_move rfl) rfl (lt_y (y_load1 Try.isAgg58 rfl rfl) rfl (lt_y (y_fa fa60_1 rfl) rfl (lt_y (y_load1 Try.isAgg43 rfl rfl) rfl (lt_y (y_fa0 fa60_0 rfl) rfl (lt_nil)))))) ?_
                refine pl_y 9 rfl (y_build (cs := [.slice Ar res.length cr, .slice A105 ((([] : List ListV) ++ vs) ++ [(⟨At, ct, to⟩ : ListV)]).length c105]) st60 rfl (by kernel_rfl)) rfl rfl rfl rfl (by kernel_rfl) ?_
                refine pl_w1 11 (by kernel_rfl) rfl rfl (pl_fire rfl rfl rfl (by kernel_rfl) ?_)
                refine oj_store rfl rfl rfl rfl Try.sizeOf60 rfl ?_
                refine oj_nil ?_
                refine ej_pl (lt_w (by kernel_rfl) (lt_w (by kernel_rfl) (lt_w (by kernel_rfl) (lt_w (by kernel_rfl) (lt_w (by kernel_rfl) (lt_w (by kernel_rfl) (lt_nil))))))) ?_
                refine pl_end (by kernel_rfl) ?_
                refine ej_takes [ow 43 1 encLs A105 c105 ((([] : List ListV) ++ vs) ++ [(⟨At, ct, to⟩ : ListV)]), ownB b12 (cellsB 60 [.slice Ar res.length cr, .slice A105 ((([] : List ListV) ++ vs) ++ [(⟨At, ct, to⟩ : ListV)]).length c105]), ownB b5 (cellsB 25 [.int .i64 n0, .int .i64 n1]), ownB b3 (cellsB 60 [.slice Ar res.length cr, .slice Av vs.length cv])] ?_
                refine ej_eqO [ow 43 1 encLs A105 c105 (vs ++ [(⟨At, ct, to⟩ : ListV)]), ownB b12 (cellsB 60 [.slice Ar res.length cr, .slice A105 (vs ++ [(⟨At, ct, to⟩ : ListV)]).length c105]), ownB b5 (cellsB 25 [.int .i64 n0, .int .i64 n1]), ownB b3 (cellsB 60 [.slice Ar res.length cr, .slice Av vs.length cv])] rfl ?_
                exact ej_ct (b12, A105, c105) trivial ⟨rfl, rfl, rfl, rfl, trivial⟩
          · refine oj_buildSlice (cs := [.slice At to.length ct]) [.slice none 0 0] Try.underlying58 Try.sizeOf43 Try.zeroValue43 rfl rfl (by kernel_rfl) (by kernel_rfl) rfl (fun b104 => ?_)
            refine oj_nil ?_
            refine ej_pl (lt_w (by kernel_rfl) (lt_y (y_load1 Try.isAgg58 rfl rfl) rfl (lt_y (y_fa fa60_1 rfl) rfl (lt_y (y_load1 Try.isAgg43 rfl rfl) rfl (lt_y (y_fa0 fa60_0 rfl) rfl (lt_nil)))))) ?_
            refine pl_w2 2 10 (by kernel_rfl) rfl rfl (pl_fire rfl rfl rfl (by kernel_rfl) ?_) (pl_fire rfl rfl rfl (by kernel_rfl) ?_)
            · refine oj_buildSlice (cs := []) [] Try.underlying58 Try.sizeOf43 Try.zeroValue43 rfl rfl (by kernel_rfl) (by kernel_rfl) rfl (fun b99 => ?_)
              refine oj_litOw (b := b99) (e := 43) (c := 0) (sz := 1) (enc := encLs) [] rfl rfl rfl (by unfold maxLen; simp) ?_
              refine oj_nil ?_
              refine ej_pl (lt_y (y_move rfl) rfl (lt_y (y_load1 Try.isAgg58 rfl rfl) rfl (lt_y (y_fa fa60_1 rfl) rfl (lt_y (y_load1 Try.isAgg43 rfl rfl) rfl (lt_y (y_fa0 fa60_0 rfl) rfl (lt_nil)))))) ?_
              refine pl_w2 5 10 (by kernel_rfl) rfl rfl (pl_fire rfl rfl rfl (by kernel_rfl) ?_) (pl_fire rfl rfl rfl (by kernel_rfl) ?_)
              · refine oj_append (xs := ([] : List ListV)) (c := 0) el58 (fun _ => rfl) encLs_one rfl rfl rfl (reads_sl) (by unfold maxLen; simp only [List.length_nil]; omega) (by simp only [List.length_nil]; omega) rfl (fun A102 c102 => ?_)
                refine oj_nil ?_
                refine ej_pl (lt_y (y_move rfl) rfl (lt_w (by kernel_rfl) (lt_y (y_fa fa60_1 rfl) rfl (lt_y (y_load1 Try.isAgg43 rfl rfl) rfl (lt_y (y_fa0 fa60_0 rfl) rfl (lt_nil)))))) ?_
                refine pl_w2 8 10 (by kernel_rfl) rfl rfl (pl_fire rfl rfl rfl (by kernel_rfl) ?_) (pl_fire rfl rfl rfl (by kernel_rfl) ?_)
                · refine oj_append  el58 (fun _ => rfl) encLs_one rfl rfl rfl (reads_lit [(⟨At, ct, to⟩ : ListV)] (fun _ => rfl) rfl) (by unfold maxLen; simp only [List.length_nil, List.length_append, List.length_cons]; omega) (by simp only [List.length_nil, List.length_append, List.length_cons]; omega) rfl (fun A105 c105 => ?_)
                  refine oj_nil ?_
                  refine ej_pl (lt_y (y_move rfl) rfl (lt_y (y_load1 Try.isAgg58 rfl rfl) rfl (lt_y (y_fa fa60_1 rfl) rfl (lt_y (y_load1 Try.isAgg43 rfl rfl) rfl (lt_y (y_fa0 fa60_0 rfl) rfl (lt_nil)))))) ?_
                  refine pl_y 9 rfl (y_build (cs := [.slice Ar res.length cr, .slice A105 ((([] : List ListV) ++ vs) ++ [(⟨At, ct, to⟩ : ListV)]).length c105]) st60 rfl (by kernel_rfl)) rfl rfl rfl rfl (by kernel_rfl) ?_
                  refine pl_w1 10 (by kernel_rfl) rfl rfl (pl_fire rfl rfl rfl (by kernel_rfl) ?_)
                  refine oj_alloc Try.zeroValue60 rfl rfl (fun b12 => ?_)
                  refine oj_nil ?_
                  refine ej_pl (lt_y (y_build (cs := [.slice Ar res.length cr, .slice A105 ((([] : List ListV) ++ vs) ++ [(⟨At, ct, to⟩ : ListV)]).length c105]) st60 rfl (by kernel_rfl)) rfl (lt_y (y_move rfl) rfl (lt_y (y_load1 Try.isAgg58 rfl rfl) rfl (lt_y (y_fa fa60_1 rfl) rfl (lt_y (y_load1 Try.isAgg43 rfl rfl) rfl (lt_y (y_fa0 fa60_0 rfl) rfl (lt_nil))))))) ?_
                  refine pl_w1 11 (by kernel_rfl) rfl rfl (pl_fire rfl rfl rfl (by kernel_rfl) ?_)
                  refine oj_store rfl rfl rfl rfl Try.sizeOf60 rfl ?_
                  refine oj_nil ?_
                  refine ej_pl (lt_w (by kernel_rfl) (lt_w (by kernel_rfl) (lt_w (by kernel_rfl) (lt_w (by kernel_rfl) (lt_w (by kernel_rfl) (lt_w (by kernel_rfl) (lt_nil))))))) ?_
                  refine pl_end (by kernel_rfl) ?_
                  refine ej_takes [ow 43 1 encLs A105 c105 ((([] : List ListV) ++ vs) ++ [(⟨At, ct, to⟩ : ListV)]), ownB b12 (cellsB 60 [.slice Ar res.length cr, .slice A105 ((([] : List ListV) ++ vs) ++ [(⟨At, ct, to⟩ : ListV)]).length c105]), ownB b5 (cellsB 25 [.int .i64 n0, .int .i64 n1]), ownB b3 (cellsB 60 [.slice Ar res.length cr, .slice Av vs.length cv])] ?_
                  refine ej_eqO [ow 43 1 encLs A105 c105 (vs ++ [(⟨At, ct, to⟩ : ListV)]), ownB b12 (cellsB 60 [.slice Ar res.length cr, .slice A105 (vs ++ [(⟨At, ct, to⟩ : ListV)]).length c105]), ownB b5 (cellsB 25 [.int .i64 n0, .int .i64 n1]), ownB b3 (cellsB 60 [.slice Ar res.length cr, .slice Av vs.length cv])] rfl ?_
                  exact ej_ct (b12, A105, c105) trivial ⟨rfl, rfl, rfl, rfl, trivial⟩
                · refine oj_alloc Try.zeroValue60 rfl rfl (fun b12 => ?_)
                  refine oj_nil ?_
                  refine ej_pl (lt_y (y_move rfl) rfl (lt_y (y_load1 Try.isAgg58 rfl rfl) rfl (lt_y (y_fa fa60_1 rfl) rfl (lt_y (y_load1 Try.isAgg43 rfl rfl) rfl (lt_y (y_fa0 fa60_0 rfl) rfl (lt_nil)))))) ?_
                  refine pl_w1 8 (by kernel_rfl) rfl rfl (pl_fire rfl rfl rfl (by kernel_rfl) ?_)
                  refine oj_append  el58 (fun _ => rfl) encLs_one rfl rfl rfl (reads_lit [(⟨At, ct, to⟩ : ListV)] (fun _ => rfl) rfl) (by unfold maxLen; simp only [List.length_nil, List.length_append, List.length_cons]; omega) (by simp only [List.length_nil, List.length_append, List.length_cons]; omega) rfl (fun A105 c105 => ?_)
                  refine oj_nil ?_
                  refine ej_pl (lt_y (y_move rfl) rfl (lt_y (y_load1 Try.isAgg58 rfl rfl) rfl (lt_y (y_fa fa60_1 rfl) rfl (lt_y (y_load1 Try.isAgg43 rfl rfl) rfl (lt_y (y_fa0 fa60_0 rfl) rfl (lt_nil)))))) ?_
                  refine pl_y 9 rfl (y_build (cs := [.slice Ar res.length cr, .slice A105 ((([] : List ListV) ++ vs) ++ [(⟨At, ct, to⟩ : ListV)]).length c105]) st60 rfl (by kernel_rfl)) rfl rfl rfl rfl (by kernel_rfl) ?_
                  refine pl_w1 11 (by kernel_rfl) rfl rfl (pl_fire rfl rfl rfl (by kernel_rfl) ?_)
                  refine oj_store rfl rfl rfl rfl Try.sizeOf60 rfl ?_
                  refine oj_nil ?_
                  refine ej_pl (lt_w (by kernel_rfl) (lt_w (by kernel_rfl) (lt_w (by kernel_rfl) (lt_w (by kernel_rfl) (lt_w (by kernel_rfl) (lt_w (by kernel_rfl) (lt_nil))))))) ?_
                  refine pl_end (by kernel_rfl) ?_
                  refine ej_takes [ow 43 1 encLs A105 c105 ((([] : List ListV) ++ vs) ++ [(⟨At, ct, to⟩ : ListV)]), ownB b12 (cellsB 60 [.slice Ar res.length cr, .slice A105 ((([] : List ListV) ++ vs) ++ [(⟨At, ct, to⟩ : ListV)]).length c105]), ownB b5 (cellsB 25 [.int .i64 n0, .int .i64 n1]), ownB b3 (cellsB 60 [.slice Ar res.length cr, .slice Av vs.length cv])] ?_
                  refine ej_eqO [ow 43 1 encLs A105 c105 (vs ++ [(⟨At, ct, to⟩ : ListV)]), ownB b12 (cellsB 60 [.slice Ar res.length cr, .slice A105 (vs ++ [(⟨At, ct, to⟩ : ListV)]).length c105]), ownB b5 (cellsB 25 [.int .i64 n0, .int .i64 n1]), ownB b3 (cellsB 60 [.slice Ar res.length cr, .slice Av vs.length cv])] rfl ?_
                  exact ej_ct (b12, A105, c105) trivial ⟨rfl, rfl, rfl, rfl, trivial⟩
              · refine oj_alloc Try.zeroValue60 rfl rfl (fun b12 => ?_)
                refine oj_nil ?_
                refine ej_pl (lt_y (y_move rfl) rfl (lt_y (y_load1 Try.isAgg58 rfl rfl) rfl (lt_y (y_fa fa60_1 rfl) rfl (lt_y (y_load1 Try.isAgg43 rfl rfl) rfl (lt_y (y_fa0 fa60_0 rfl) rfl (lt_nil)))))) ?_
                refine pl_w1 5 (by kernel_rfl) rfl rfl (pl_fire rfl rfl rfl (by kernel_rfl) ?_)
                refine oj_append (xs := ([] : List ListV)) (c := 0) el58 (fun _ => rfl) encLs_one rfl rfl rfl (reads_sl) (by unfold maxLen; simp only [List.length_nil]; omega) (by simp only [List.length_nil]; omega) rfl (fun A102 c102 => ?_)
                refine oj_nil ?_
                refine ej_pl (lt_y (y_move rfl) rfl (lt_w (by kernel_rfl) (lt_y (y_fa fa60_1 rfl) rfl (lt_y (y_load1 Try.isAgg43 rfl rfl) rfl (lt_y (y_fa0 fa60_0 rfl) rfl (lt_nil)))))) ?_
                refine pl_w1 8 (by kernel_rfl) rfl rfl (pl_fire rfl rfl rfl (by kernel_rfl) ?_)
                refine oj_append  el58 (fun _ => rfl) encLs_one rfl rfl rfl (reads_lit [(⟨At, ct, to⟩ : ListV)] (fun _ => rfl) rfl) (by unfold maxLen; simp only [List.length_nil, List.length_append, List.length_cons]; omega) (by simp only [List.length_nil, List.length_append, List.length_cons]; omega) rfl (fun A105 c105 => ?_)
                refine oj_nil ?_
                refine ej_pl (lt_y (y_move rfl) rfl (lt_y (y_load1 Try.isAgg58 rfl rfl) rfl (lt_y (y_fa fa60_1 rfl) rfl (lt_y (y_load1 Try.isAgg43 rfl rfl) rfl (lt_y (y_fa0 fa60_0 rfl) rfl (lt_nil)))))) ?_
                refine pl_y 9 rfl (y_build (cs := [.slice Ar res.length cr, .slice A105 ((([] : List ListV) ++ vs) ++ [(⟨At, ct, to⟩ : ListV)]).length c105]) st60 rfl (by kernel_rfl)) rfl rfl rfl rfl (by kernel_rfl) ?_
                refine pl_w1 11 (by kernel_rfl) rfl rfl (pl_fire rfl rfl rfl (by kernel_rfl) ?_)
                refine oj_store rfl rfl rfl rfl Try.sizeOf60 rfl ?_
                refine oj_nil ?_
                refine ej_pl (lt_w (by kernel_rfl) (lt_w (by kernel_rfl) (lt_w (by kernel_rfl) (lt_w (by kernel_rfl) (lt_w (by kernel_rfl) (lt_w (by kernel_rfl) (lt_nil))))))) ?_
                refine pl_end (by kernel_rfl) ?_
                refine ej_takes [ow 43 1 encLs A105 c105 ((([] : List ListV) ++ vs) ++ [(⟨At, ct, to⟩ : ListV)]), ownB b12 (cellsB 60 [.slice Ar res.length cr, .slice A105 ((([] : List ListV) ++ vs) ++ [(⟨At, ct, to⟩ : ListV)]).length c105]), ownB b5 (cellsB 25 [.int .i64 n0, .int .i64 n1]), ownB b3 (cellsB 60 [.slice Ar res.length cr, .slice Av vs.length cv])] ?_
                refine ej_eqO [ow 43 1 encLs A105 c105 (vs ++ [(⟨At, ct, to⟩ : ListV)]), ownB b12 (cellsB 60 [.slice Ar res.length cr, .slice A105 (vs ++ [(⟨At, ct, to⟩ : ListV)]).length c105]), ownB b5 (cellsB 25 [.int .i64 n0, .int .i64 n1]), ownB b3 (cellsB 60 [.slice Ar res.length cr, .slice Av vs.length cv])] rfl ?_
                exact ej_ct (b12, A105, c105) trivial ⟨rfl, rfl, rfl, rfl, trivial⟩
            · refine oj_alloc Try.zeroValue60 rfl rfl (fun b12 => ?_)
              refine oj_nil ?_
              refine ej_pl (lt_y (y_move rfl) rfl (lt_y (y_load1 Try.isAgg58 rfl rfl) rfl (lt_y (y_fa fa60_1 rfl) rfl (lt_y (y_load1 Try.isAgg43 rfl rfl) rfl (lt_y (y_fa0 fa60_0 rfl) rfl (lt_nil)))))) ?_
              refine pl_w1 2 (by kernel_rfl) rfl rfl (pl_fire rfl rfl rfl (by kernel_rfl) ?_)
              refine oj_buildSlice (cs := []) [] Try.underlying58 Try.sizeOf43 Try.zeroValue43 rfl rfl (by kernel_rfl) (by kernel_rfl) rfl (fun b99 => ?_)
              refine oj_litOw (b := b99) (e := 43) (c := 0) (sz := 1) (enc := encLs) [] rfl rfl rfl (by unfold maxLen; simp) ?_
              refine oj_nil ?_
              refine ej_pl (lt_y (y_move rfl) rfl (lt_y (y_load1 Try.isAgg58 rfl rfl) rfl (lt_y (y_fa fa60_1 rfl) rfl (lt_y (y_load1 Try.isAgg43 rfl rfl) rfl (lt_y (y_fa0 fa60_0 rfl) rfl (lt_nil)))))) ?_
              refine pl_w1 5 (by kernel_rfl) rfl rfl (pl_fire rfl rfl rfl (by kernel_rfl) ?_)
              refine oj_append (xs := ([] : List ListV)) (c := 0) el58 (fun _ => rfl) encLs_one rfl rfl rfl (reads_sl) (by unfold maxLen; simp only [List.length_nil]; omega) (by simp only [List.length_nil]; omega) rfl (fun A102 c102 => ?_)
              refine oj_nil ?_
              refine ej_pl (lt_y (y_move rfl) rfl (lt_w (by kernel_rfl) (lt_y (y_fa fa60_1 rfl) rfl (lt_y (y_load1 Try.isAgg43 rfl rfl) rfl (lt_y (y_fa0 fa60_0 rfl) rfl (lt_nil)))))) ?_
              refine pl_w1 8 (by kernel_rfl) rfl rfl (pl_fire rfl rfl rfl (by kernel_rfl) ?_)
              refine oj_append  el58 (fun _ => rfl) encLs_one rfl rfl rfl (reads_lit [(⟨At, ct, to⟩ : ListV)] (fun _ => rfl) rfl) (by unfold maxLen; simp only [List.length_nil, List.length_append, List.length_cons]; omega) (by simp only [List.length_nil, List.length_append, List.length_cons]; omega) rfl (fun A105 c105 => ?_)
              refine oj_nil ?_
              refine ej_pl (lt_y (y_move rfl) rfl (lt_y (y_load1 Try.isAgg58 rfl rfl) rfl (lt_y (y_fa fa60_1 rfl) rfl (lt_y (y_load1 Try.isAgg43 rfl rfl) rfl (lt_y (y_fa0 fa60_0 rfl) rfl (lt_nil)))))) ?_
              refine pl_y 9 rfl (y_build (cs := [.slice Ar res.length cr, .slice A105 ((([] : List ListV) ++ vs) ++ [(⟨At, ct, to⟩ : ListV)]).length c105]) st60 rfl (by kernel_rfl)) rfl rfl rfl rfl (by kernel_rfl) ?_
              refine pl_w1 11 (by kernel_rfl) rfl rfl (pl_fire rfl rfl rfl (by kernel_rfl) ?_)
              refine oj_store rfl rfl rfl rfl Try.sizeOf60 rfl ?_
              refine oj_nil ?_
              refine ej_pl (lt_w (by kernel_rfl) (lt_w (by kernel_rfl) (lt_w (by kernel_rfl) (lt_w (by kernel_rfl) (lt_w (by kernel_rfl) (lt_w (by kernel_rfl) (lt_nil))))))) ?_
              refine pl_end (by kernel_rfl) ?_
              refine ej_takes [ow 43 1 encLs A105 c105 ((([] : List ListV) ++ vs) ++ [(⟨At, ct, to⟩ : ListV)]), ownB b12 (cellsB 60 [.slice Ar res.length cr, .slice A105 ((([] : List ListV) ++ vs) ++ [(⟨At, ct, to⟩ : ListV)]).length c105]), ownB b5 (cellsB 25 [.int .i64 n0, .int .i64 n1]), ownB b3 (cellsB 60 [.slice Ar res.length cr, .slice Av vs.length cv])] ?_
              refine ej_eqO [ow 43 1 encLs A105 c105 (vs ++ [(⟨At, ct, to⟩ : ListV)]), ownB b12 (cellsB 60 [.slice Ar res.length cr, .slice A105 (vs ++ [(⟨At, ct, to⟩ : ListV)]).length c105]), ownB b5 (cellsB 25 [.int .i64 n0, .int .i64 n1]), ownB b3 (cellsB 60 [.slice Ar res.length cr, .slice Av vs.length cv])] rfl ?_
              exact ej_ct (b12, A105, c105) trivial ⟨rfl, rfl, rfl, rfl, trivial⟩
          · refine oj_alloc Try.zeroValue60 rfl rfl (fun b12 => ?_)
            refine oj_nil ?_
            refine ej_pl (lt_y (y_move rfl) rfl (lt_y (y_load1 Try.isAgg58 rfl rfl) rfl (lt_y (y_fa fa60_1 rfl) rfl (lt_y (y_load1 Try.isAgg43 rfl rfl) rfl (lt_y (y_fa0 fa60_0 rfl) rfl (lt_nil)))))) ?_
            refine pl_w2 2 7 (by kernel_rfl) rfl rfl (pl_fire rfl rfl rfl (by kernel_rfl) ?_) (pl_fire rfl rfl rfl (by kernel_rfl) ?_)
            · refine oj_buildSlice (cs := []) [] Try.underlying58 Try.sizeOf43 Try.zeroValue43 rfl rfl (by kernel_rfl) (by kernel_rfl) rfl (fun b99 => ?_)
              refine oj_litOw (b := b99) (e := 43) (c := 0) (sz := 1) (enc := encLs) [] rfl rfl rfl (by unfold maxLen; simp) ?_
              refine oj_nil ?_
              refine ej_pl (lt_y (y_move rfl) rfl (lt_y (y_load1 Try.isAgg58 rfl rfl) rfl (lt_y (y_fa fa60_1 rfl) rfl (lt_y (y_load1 Try.isAgg43 rfl rfl) rfl (lt_y (y_fa0 fa60_0 rfl) rfl (lt_nil)))))) ?_
              refine pl_w2 5 7 (by kernel_rfl) rfl rfl (pl_fire rfl rfl rfl (by kernel_rfl) ?_) (pl_fire rfl rfl rfl (by kernel_rfl) ?_)
              · refine oj_append (xs := ([] : List ListV)) (c := 0) el58 (fun _ => rfl) encLs_one rfl rfl rfl (reads_sl) (by unfold maxLen; simp only [List.length_nil]; omega) (by simp only [List.length_nil]; omega) rfl (fun A102 c102 => ?_)
                refine oj_nil ?_
                refine ej_pl (lt_y (y_move rfl) rfl (lt_w (by kernel_rfl) (lt_y (y_fa fa60_1 rfl) rfl (lt_y (y_load1 Try.isAgg43 rfl rfl) rfl (lt_y (y_fa0 fa60_0 rfl) rfl (lt_nil)))))) ?_
                refine pl_w1 7 (by kernel_rfl) rfl rfl (pl_fire rfl rfl rfl (by kernel_rfl) ?_)
                refine oj_buildSlice (cs := [.slice At to.length ct]) [.slice none 0 0] Try.underlying58 Try.sizeOf43 Try.zeroValue43 rfl rfl (by kernel_rfl) (by kernel_rfl) rfl (fun b104 => ?_)
                refine oj_nil ?_
                refine ej_pl (lt_w (by kernel_rfl) (lt_y (y_load1 Try.isAgg58 rfl rfl) rfl (lt_y (y_fa fa60_1 rfl) rfl (lt_y (y_load1 Try.isAgg43 rfl rfl) rfl (lt_y (y_fa0 fa60_0 rfl) rfl (lt_nil)))))) ?_
                refine pl_w1 8 (by kernel_rfl) rfl rfl (pl_fire rfl rfl rfl (by kernel_rfl) ?_)
                refine oj_append  el58 (fun _ => rfl) encLs_one rfl rfl rfl (reads_lit [(⟨At, ct, to⟩ : ListV)] (fun _ => rfl) rfl) (by unfold maxLen; simp only [List.length_nil, List.length_append, List.length_cons]; omega) (by simp only [List.length_nil, List.length_append, List.length_cons]; omega) rfl (fun A105 c105 => ?_)
                refine oj_nil ?_
                refine ej_pl (lt_y (y_move rfl) rfl (lt_y (y_load1 Try.isAgg58 rfl rfl) rfl (lt_y (y_fa fa60_1 rfl) rfl (lt_y (y_load1 Try.isAgg43 rfl rfl) rfl (lt_y (y_fa0 fa60_0 rfl) rfl (lt_nil)))))) ?_
                refine pl_y 9 rfl (y_build (cs := [.slice Ar res.length cr, .slice A105 ((([] : List ListV) ++ vs) ++ [(⟨At, ct, to⟩ : ListV)]).length c105]) st60 rfl (by kernel_rfl)) rfl rfl rfl rfl (by kernel_rfl) ?_
                refine pl_w1 11 (by kernel_rfl) rfl rfl (pl_fire rfl rfl rfl (by kernel_rfl) ?_)
                refine oj_store rfl rfl rfl rfl Try.sizeOf60 rfl ?_
                refine oj_nil ?_
                refine ej_pl (lt_w (by kernel_rfl) (lt_w (by kernel_rfl) (lt_w (by kernel_rfl) (lt_w (by kernel_rfl) (lt_w (by kernel_rfl) (lt_w (by kernel_rfl) (lt_nil))))))) ?_
                refine pl_end (by kernel_rfl) ?_
                refine ej_takes [ow 43 1 encLs A105 c105 ((([] : List ListV) ++ vs) ++ [(⟨At, ct, to⟩ : ListV)]), ownB b12 (cellsB 60 [.slice Ar res.length cr, .slice A105 ((([] : List ListV) ++ vs) ++ [(⟨At, ct, to⟩ : ListV)]).length c105]), ownB b5 (cellsB 25 [.int .i64 n0, .int .i64 n1]), ownB b3 (cellsB 60 [.slice Ar res.length cr, .slice Av vs.length cv])] ?_
                refine ej_eqO [ow 43 1 encLs A105 c105 (vs ++ [(⟨At, ct, to⟩ : ListV)]), ownB b12 (cellsB 60 [.slice Ar res.length cr, .slice A105 (vs ++ [(⟨At, ct, to⟩ : ListV)]).length c105]), ownB b5 (cellsB 25 [.int .i64 n0, .int .i64 n1]), ownB b3 (cellsB 60 [.slice Ar res.length cr, .slice Av vs.length cv])] rfl ?_
                exact ej_ct (b12, A105, c105) trivial ⟨rfl, rfl, rfl, rfl, trivial⟩
              · refine oj_buildSlice (cs := [.slice At to.length ct]) [.slice none 0 0] Try.underlying58 Try.sizeOf43 Try.zeroValue43 rfl rfl (by kernel_rfl) (by kernel_rfl) rfl (fun b104 => ?_)
                refine oj_nil ?_
                refine ej_pl (lt_w (by kernel_rfl) (lt_y (y_load1 Try.isAgg58 rfl rfl) rfl (lt_y (y_fa fa60_1 rfl) rfl (lt_y (y_load1 Try.isAgg43 rfl rfl) rfl (lt_y (y_fa0 fa60_0 rfl) rfl (lt_nil)))))) ?_
                refine pl_w1 5 (by kernel_rfl) rfl rfl (pl_fire rfl rfl rfl (by kernel_rfl) ?_)
                refine oj_append (xs := ([] : List ListV)) (c := 0) el58 (fun _ => rfl) encLs_one rfl rfl rfl (reads_sl) (by unfold maxLen; simp only [List.length_nil]; omega) (by simp only [List.length_nil]; omega) rfl (fun A102 c102 => ?_)
                refine oj_nil ?_
                refine ej_pl (lt_y (y_move rfl) rfl (lt_w (by kernel_rfl) (lt_y (y_fa fa60_1 rfl) rfl (lt_y (y_load1 Try.isAgg43 rfl rfl) rfl (lt_y (y_fa0 fa60_0 rfl) rfl (lt_nil)))))) ?_
                refine pl_w1 8 (by kernel_rfl) rfl rfl (pl_fire rfl rfl rfl (by kernel_rfl) ?_)
                refine oj_append  el58 (fun _ => rfl) encLs_one rfl rfl rfl (reads_lit [(⟨At, ct, to⟩ : ListV)] (fun _ => rfl) rfl) (by unfold maxLen; simp only [List.length_nil, List.length_append, List.length_cons]; omega) (by simp only [List.length_nil, List.length_append, List.length_cons]; omega) rfl (fun A105 c105 => ?_)
                refine oj_nil ?_
                refine ej_pl (lt_y (y_move rfl) rfl (lt_y (y_load1 Try.isAgg58 rfl rfl) rfl (lt_y (y_fa fa60_1 rfl) rfl (lt_y (y_load1 Try.isAgg43 rfl rfl) rfl (lt_y (y_fa0 fa60_0 rfl) rfl (lt_nil)))))) ?_
                refine pl_y 9 rfl (y_build (cs := [.slice Ar res.length cr, .slice A105 ((([] : List ListV) ++ vs) ++ [(⟨At, ct, to⟩ : ListV)]).length c105]) st60 rfl (by kernel_rfl)) rfl rfl rfl rfl (by kernel_rfl) ?_
                refine pl_w1 11 (by kernel_rfl) rfl rfl (pl_fire rfl rfl rfl (by kernel_rfl) ?_)
                refine oj_store rfl rfl rfl rfl Try.sizeOf60 rfl ?_
                refine oj_nil ?_
                refine ej_pl (lt_w (by kernel_rfl) (lt_w (by kernel_rfl) (lt_w (by kernel_rfl) (lt_w (by kernel_rfl) (lt_w (by kernel_rfl) (lt_w (by kernel_rfl) (lt_nil))))))) ?_
                refine pl_end (by kernel_rfl) ?_
                refine ej_takes [ow 43 1 encLs A105 c105 ((([] : List ListV) ++ vs) ++ [(⟨At, ct, to⟩ : ListV)]), ownB b12 (cellsB 60 [.slice Ar res.length cr, .slice A105 ((([] : List ListV) ++ vs) ++ [(⟨At, ct, to⟩ : ListV)]).length c105]), ownB b5 (cellsB 25 [.int .i64 n0, .int .i64 n1]), ownB b3 (cellsB 60 [.slice Ar res.length cr, .slice Av vs.length cv])] ?_
                refine ej_eqO [ow 43 1 encLs A105 c105 (vs ++ [(⟨At, ct, to⟩ : ListV)]), ownB b12 (cellsB 60 [.slice Ar res.length cr, .slice A105 (vs ++ [(⟨At, ct, to⟩ : ListV)]).length c105]), ownB b5 (cellsB 25 [.int .i64 n0, .int .i64 n1]), ownB b3 (cellsB 60 [.slice Ar res.length cr, .slice Av vs.length cv])] rfl ?_
                exact ej_ct (b12, A105, c105) trivial ⟨rfl, rfl, rfl, rfl, trivial⟩
            · refine oj_buildSlice (cs := [.slice At to.length ct]) [.slice none 0 0] Try.underlying58 Try.sizeOf43 Try.zeroValue43 rfl rfl (by kernel_rfl) (by kernel_rfl) rfl (fun b104 => ?_)
              refine oj_nil ?_
              refine ej_pl (lt_w (by kernel_rfl) (lt_y (y_load1 Try.isAgg58 rfl rfl) rfl (lt_y (y_fa fa60_1 rfl) rfl (lt_y (y_load1 Try.isAgg43 rfl rfl) rfl (lt_y (y_fa0 fa60_0 rfl) rfl (lt_nil)))))) ?_
              refine pl_w1 2 (by kernel_rfl) rfl rfl (pl_fire rfl rfl rfl (by kernel_rfl) ?_)
              refine oj_buildSlice (cs := []) [] Try.underlying58 Try.sizeOf43 Try.zeroValue43 rfl rfl (by kernel_rfl) (by kernel_rfl) rfl (fun b99 => ?_)
              refine oj_litOw (b := b99) (e := 43) (c := 0) (sz := 1) (enc := encLs) [] rfl rfl rfl (by unfold maxLen; simp) ?_
              refine oj_nil ?_
              refine ej_pl (lt_y (y_move rfl) rfl (lt_y (y_load1 Try.isAgg58 rfl rfl) rfl (lt_y (y_fa fa60_1 rfl) rfl (lt_y (y_load1 Try.isAgg43 rfl rfl) rfl (lt_y (y_fa0 fa60_0 rfl) rfl (lt_nil)))))) ?_
              refine pl_w1 5 (by kernel_rfl) rfl rfl (pl_fire rfl rfl rfl (by kernel_rfl) ?_)
              refine oj_append (xs := ([] : List ListV)) (c := 0) el58 (fun _ => rfl) encLs_one rfl rfl rfl (reads_sl) (by unfold maxLen; simp only [List.length_nil]; omega) (by simp only [List.length_nil]; omega) rfl (fun A102 c102 => ?_)
              refine oj_nil ?_
              refine ej_pl (lt_y (y_move rfl) rfl (lt_w (by kernel_rfl) (lt_y (y_fa fa60_1 rfl) rfl (lt_y (y_load1 Try.isAgg43 rfl rfl) rfl (lt_y (y_fa0 fa60_0 rfl) rfl (lt_nil)))))) ?_
              refine pl_w1 8 (by kernel_rfl) rfl rfl (pl_fire rfl rfl rfl (by kernel_rfl) ?_)
              refine oj_append  el58 (fun _ => rfl) encLs_one rfl rfl rfl (reads_lit [(⟨At, ct, to⟩ : ListV)] (fun _ => rfl) rfl) (by unfold maxLen; simp only [List.length_nil, List.length_append, List.length_cons]; omega) (by simp only [List.length_nil, List.length_append, List.length_cons]; omega) rfl (fun A105 c105 => ?_)
              refine oj_nil ?_
              refine ej_pl (lt_y (y_move rfl) rfl (lt_y (y_load1 Try.isAgg58 rfl rfl) rfl (lt_y (y_fa fa60_1 rfl) rfl (lt_y (y_load1 Try.isAgg43 rfl rfl) rfl (lt_y (y_fa0 fa60_0 rfl) rfl (lt_nil)))))) ?_
              refine pl_y 9 rfl (y_build (cs := [.slice Ar res.length cr, .slice A105 ((([] : List ListV) ++ vs) ++ [(⟨At, ct, to⟩ : ListV)]).length c105]) st60 rfl (by kernel_rfl)) rfl rfl rfl rfl (by kernel_rfl) ?_
              refine pl_w1 11 (by kernel_rfl) rfl rfl (pl_fire rfl rfl rfl (by kernel_rfl) ?_)
              refine oj_store rfl rfl rfl rfl Try.sizeOf60 rfl ?_
              refine oj_nil ?_
              refine ej_pl (lt_w (by kernel_rfl) (lt_w (by kernel_rfl) (lt_w (by kernel_rfl) (lt_w (by kernel_rfl) (lt_w (by kernel_rfl) (lt_w (by kernel_rfl) (lt_nil))))))) ?_
              refine pl_end (by kernel_rfl) ?_
              refine ej_takes [ow 43 1 encLs A105 c105 ((([] : List ListV) ++ vs) ++ [(⟨At, ct, to⟩ : ListV)]), ownB b12 (cellsB 60 [.slice Ar res.length cr, .slice A105 ((([] : List ListV) ++ vs) ++ [(⟨At, ct, to⟩ : ListV)]).length c105]), ownB b5 (cellsB 25 [.int .i64 n0, .int .i64 n1]), ownB b3 (cellsB 60 [.slice Ar res.length cr, .slice Av vs.length cv])] ?_
              refine ej_eqO [ow 43 1 encLs A105 c105 (vs ++ [(⟨At, ct, to⟩ : ListV)]), ownB b12 (cellsB 60 [.slice Ar res.length cr, .slice A105 (vs ++ [(⟨At, ct, to⟩ : ListV)]).length c105]), ownB b5 (cellsB 25 [.int .i64 n0, .int .i64 n1]), ownB b3 (cellsB 60 [.slice Ar res.length cr, .slice Av vs.length cv])] rfl ?_
              exact ej_ct (b12, A105, c105) trivial ⟨rfl, rfl, rfl, rfl, trivial⟩
        · rintro ⟨b12, Aw, cw⟩ -
          dsimp only [List.cons_append, List.nil_append]
          refine cj_cuti (X := Nat × Option Addr × Nat) [(12, _), (5, _), (7, _)] ⟨rfl, rfl, rfl, trivial⟩ (fun ⟨b13, Ad, cd⟩ => True) (fun ⟨b13, Ad, cd⟩ => [(13, .pointer (some ⟨b13, 0, none⟩))]) (fun ⟨b13, Ad, cd⟩ => [ow 3 1 enInt Ad cd res, ownB b13 (cellsB 60 [.slice Ad res.length cd, .slice Av vs.length cv]), ow 43 1 encLs Aw cw (vs ++ [(⟨At, ct, to⟩ : ListV)]), ownB b12 (cellsB 60 [.slice Ar res.length cr, .slice Aw (vs ++ [(⟨At, ct, to⟩ : ListV)]).length cw]), ownB b5 (cellsB 25 [.int .i64 n0, .int .i64 n1]), ownB b3 (cellsB 60 [.slice Ar res.length cr, .slice Av vs.length cv])]) (fun ⟨b13, Ad, cd⟩ => [sl fp22 1 enInt A22 (CloA res vs).2, sl (fun b => b < w.heap.size) 1 enInt Ar res, sl (fun b => b < w.heap.size) 1 encLs Av vs, sl (fun b => b < w.heap.size) 1 enInt At to]) ?_ ?_
          · refine cj_plan 8 (by kernel_rfl) (by kernel_rfl) ?_
            refine pl_y 0 rfl (y_fa0 fa60_0 rfl) rfl rfl rfl rfl (by kernel_rfl) ?_
            refine pl_y 1 rfl (y_load1 Try.isAgg43 rfl rfl) rfl rfl rfl rfl (by kernel_rfl) ?_
            refine pl_y 3 rfl (y_fa fa60_1 rfl) rfl rfl rfl rfl (by kernel_rfl) ?_
            refine pl_y 4 rfl (y_load1 Try.isAgg58 rfl rfl) rfl rfl rfl rfl (by kernel_rfl) ?_
            refine pl_w2 2 6 (by kernel_rfl) rfl rfl (pl_fire rfl rfl rfl (by kernel_rfl) ?_) (pl_fire rfl rfl rfl (by kernel_rfl) ?_)
            · refine oj_callO (fun B d => .slice B res.length d) 3 1 enInt res Try.call36 rfl (fun w hp => k_OwnI res Ar cr w hp.rd (by omega)) rfl (fun B109 e109 => ?_)
              refine oj_nil ?_
              refine ej_pl (lt_y (y_load1 Try.isAgg58 rfl rfl) rfl (lt_y (y_fa fa60_1 rfl) rfl (lt_w (by kernel_rfl) (lt_y (y_fa0 fa60_0 rfl) rfl (lt_nil))))) ?_
              refine pl_y 5 rfl (y_build (cs := [.slice B109 res.length e109, .slice Av vs.length cv]) st60 rfl (by kernel_rfl)) rfl rfl rfl rfl (by kernel_rfl) ?_
              refine pl_w1 6 (by kernel_rfl) rfl rfl (pl_fire rfl rfl rfl (by kernel_rfl) ?_)
              refine oj_alloc Try.zeroValue60 rfl rfl (fun b13 => ?_)
              refine oj_nil ?_
              refine ej_pl (lt_y (y_build (cs := [.slice B109 res.length e109, .slice Av vs.length cv]) st60 rfl (by kernel_rfl)) rfl (lt_y (y_load1 Try.isAgg58 rfl rfl) rfl (lt_y (y_fa fa60_1 rfl) rfl (lt_y (y_load1 Try.isAgg43 rfl rfl) rfl (lt_y (y_fa0 fa60_0 rfl) rfl (lt_nil)))))) ?_
              refine pl_w1 7 (by kernel_rfl) rfl rfl (pl_fire rfl rfl rfl (by kernel_rfl) ?_)
              refine oj_store rfl rfl rfl rfl Try.sizeOf60 rfl ?_
              refine oj_nil ?_
              refine ej_pl (lt_w (by kernel_rfl) (lt_w (by kernel_rfl) (lt_w (by kernel_rfl) (lt_w (by kernel_rfl) (lt_w (by kernel_rfl) (lt_nil)))))) ?_
              refine pl_end (by kernel_rfl) ?_
              refine ej_takes [ow 3 1 enInt B109 e109 res, ownB b13 (cellsB 60 [.slice B109 res.length e109, .slice Av vs.length cv]), ow 43 1 encLs Aw cw (vs ++ [(⟨At, ct, to⟩ : ListV)]), ownB b12 (cellsB 60 [.slice Ar res.length cr, .slice Aw (vs ++ [(⟨At, ct, to⟩ : ListV)]).length cw]), ownB b5 (cellsB 25 [.int .i64 n0, .int .i64 n1]), ownB b3 (cellsB 60 [.slice Ar res.length cr, .slice Av vs.length cv])] ?_
              exact ej_ct (b13, B109, e109) trivial ⟨rfl, rfl, rfl, rfl, trivial⟩
            · refine oj_alloc Try.zeroValue60 rfl rfl (fun b13 => ?_)
              refine oj_nil ?_
              refine ej_pl (lt_y (y_load1 Try.isAgg58 rfl rfl) rfl (lt_y (y_fa fa60_1 rfl) rfl (lt_y (y_load1 Try.isAgg43 rfl rfl) rfl (lt_y (y_fa0 fa60_0 rfl) rfl (lt_nil))))) ?_
              refine pl_w1 2 (by kernel_rfl) rfl rfl (pl_fire rfl rfl rfl (by kernel_rfl) ?_)
              refine oj_callO (fun B d => .slice B res.length d) 3 1 enInt res Try.call36 rfl (fun w hp => k_OwnI res Ar cr w hp.rd (by omega)) rfl (fun B109 e109 => ?_)
              refine oj_nil ?_
              refine ej_pl (lt_y (y_load1 Try.isAgg58 rfl rfl) rfl (lt_y (y_fa fa60_1 rfl) rfl (lt_w (by kernel_rfl) (lt_y (y_fa0 fa60_0 rfl) rfl (lt_nil))))) ?_
              refine pl_y 5 rfl (y_build (cs := [.slice B109 res.length e109, .slice Av vs.length cv]) st60 rfl (by kernel_rfl)) rfl rfl rfl rfl (by kernel_rfl) ?_
              refine pl_w1 7 (by kernel_rfl) rfl rfl (pl_fire rfl rfl rfl (by kernel_rfl) ?_)
              refine oj_store rfl rfl rfl rfl Try.sizeOf60 rfl ?_
              refine oj_nil ?_
              refine ej_pl (lt_w (by kernel_rfl) (lt_w (by kernel_rfl) (lt_w (by kernel_rfl) (lt_w (by kernel_rfl) (lt_w (by kernel_rfl) (lt_nil)))))) ?_
              refine pl_end (by kernel_rfl) ?_
              refine ej_takes [ow 3 1 enInt B109 e109 res, ownB b13 (cellsB 60 [.slice B109 res.length e109, .slice Av vs.length cv]), ow 43 1 encLs Aw cw (vs ++ [(⟨At, ct, to⟩ : ListV)]), ownB b12 (cellsB 60 [.slice Ar res.length cr, .slice Aw (vs ++ [(⟨At, ct, to⟩ : ListV)]).length cw]), ownB b5 (cellsB 25 [.int .i64 n0, .int .i64 n1]), ownB b3 (cellsB 60 [.slice Ar res.length cr, .slice Av vs.length cv])] ?_
              exact ej_ct (b13, B109, e109) trivial ⟨rfl, rfl, rfl, rfl, trivial⟩
          · rintro ⟨b13, Ad, cd⟩ -
            dsimp only [List.cons_append, List.nil_append]
            refine cj_seq ?_
            refine cj_regionG ?_
            refine gj_step (y_ixArrC 0 Try.underlying25 Try.sizeOf3 rfl rfl (by decide) (by decide)) rfl rfl rfl (gj_step (y_load1 Try.isAgg3 rfl rfl) rfl rfl rfl (gj_step (y_fa0 fa60_0 rfl) rfl rfl rfl (gj_step (y_load1 Try.isAgg43 rfl rfl) rfl rfl rfl (gj_step (y_lenA Try.underlying43 rfl) rfl rfl rfl (?_)))))
            refine gj_step (y_call Try.call31 rfl (fun w hp => k_Ring n0 res.length w (by omega))) rfl rfl rfl ?_
            refine gj_step (y_assign rfl) rfl rfl rfl (?_)
            refine gj_nil ?_
            refine ej_th (cj_seq ?_)
            obtain ⟨c, hcR⟩ : ∃ c : Nat, ringI n0 res.length = (c : Int) := ⟨(ringI n0 res.length).toNat, by have := ringI_bd n0 res.length (by omega); omega⟩
            have hcb := ringI_bd n0 res.length (by omega)
            rw [hcR] at hcb ⊢
            have hxc : res[((c : Nat) : Int).toNat]? = some (res.getD c 0) := gD (by omega)
            have hr1 := ringI_bd n1 1000 (by omega)
            have hrcb := hco.res _ (getD_mem (l := res) (d := 0) (by omega : c < res.length))
            have hyd : cloB (res.set c (min 100000 (res.getD c 0 + ringI n1 1000))) vs = true := cloB_set hyes (by omega)
            obtain ⟨ed, ed2⟩ := cloA_yes hyd
            have hdl : (CloA (res.set c (min 100000 (res.getD c 0 + ringI n1 1000))) vs).2.length = res.length := by rw [ed, prices_len, List.length_set]
            obtain ⟨hcd, _, _⟩ := clo_ok hyd
            have hwl : cloE res (vs ++ [(⟨At, ct, to⟩ : ListV)]) = 0 → (CloA res (vs ++ [(⟨At, ct, to⟩ : ListV)])).2.length = res.length := fun h => by rw [(cloA_yes (cloE_iff.1 h)).1]; exact prices_len ..
            refine cj_plan 15 (by kernel_rfl) (by kernel_rfl) ?_
            refine pl_y 0 rfl (y_fa0 fa60_0 rfl) rfl rfl rfl rfl (by kernel_rfl) ?_
            refine pl_y 1 rfl (y_load1 Try.isAgg43 rfl rfl) rfl rfl rfl rfl (by kernel_rfl) ?_
            refine pl_y 2 rfl (y_move rfl) rfl rfl rfl rfl (by kernel_rfl) ?_
            refine pl_y 3 rfl (y_fa0 fa60_0 rfl) rfl rfl rfl rfl (by kernel_rfl) ?_
            refine pl_y 4 rfl (y_load1 Try.isAgg43 rfl rfl) rfl rfl rfl rfl (by kernel_rfl) ?_
            refine pl_y 5 rfl (y_move rfl) rfl rfl rfl rfl (by kernel_rfl) ?_
            refine pl_y 6 rfl (y_ixR (reads_owI) Try.underlying43 Try.sizeOf3 rfl rfl (⟨by omega, by omega⟩)) rfl rfl rfl rfl (by kernel_rfl) ?_
            refine pl_y 7 rfl (y_ld0 (reads_owI) Try.isAgg3 rfl (hxc) rfl) rfl rfl rfl rfl (by kernel_rfl) ?_
            refine pl_y 8 rfl (y_ixArrC 1 Try.underlying25 Try.sizeOf3 rfl rfl (by decide) (by decide)) rfl rfl rfl rfl (by kernel_rfl) ?_
            refine pl_y 9 rfl (y_load1 Try.isAgg3 rfl rfl) rfl rfl rfl rfl (by kernel_rfl) ?_
            refine pl_y 10 rfl (y_call Try.call31 rfl (fun w hp => k_Ring n1 1000 w (by omega))) rfl rfl rfl rfl (by kernel_rfl) ?_
            refine pl_y 11 rfl (y_add rfl rfl (by omega)) rfl rfl rfl rfl (by kernel_rfl) ?_
            refine pl_y 12 rfl (y_min rfl rfl) rfl rfl rfl rfl (by kernel_rfl) ?_
            refine pl_y 13 rfl (y_ixR (reads_owI) Try.underlying43 Try.sizeOf3 rfl rfl (⟨by omega, by omega⟩)) rfl rfl rfl rfl (by kernel_rfl) ?_
            refine pl_w1 14 (by kernel_rfl) rfl rfl (pl_fire rfl rfl rfl (by kernel_rfl) ?_)
            refine oj_storeE (i := c) (u := (min 100000 (res.getD c 0 + ringI n1 1000))) rfl rfl rfl rfl Try.sizeOf3 (fun _ => rfl) (by first | omega | (simp only [List.length_set]; omega) | (simp; omega)) ?_
            refine oj_nil ?_
            refine ej_pl (lt_w (by kernel_rfl) (lt_w (by kernel_rfl) (lt_w (by kernel_rfl) (lt_w (by kernel_rfl) (lt_w (by kernel_rfl) (lt_w (by kernel_rfl) (lt_w (by kernel_rfl) (lt_w (by kernel_rfl) (lt_w (by kernel_rfl) (lt_w (by kernel_rfl) (lt_w (by kernel_rfl) (lt_w (by kernel_rfl) (lt_w (by kernel_rfl) (lt_w (by kernel_rfl) (lt_nil))))))))))))))) ?_
            refine pl_end (by kernel_rfl) ?_
            refine ej_th (cj_seq (cj_region ?_))
            refine oj_step (y_loadN Try.isAgg60 Try.sizeOf60 rfl) rfl rfl rfl ?_
            refine oj_callS (fun A_ d_ => .tuple #[.slice A_ (CloA res (vs ++ [(⟨At, ct, to⟩ : ListV)])).2.length d_, .int .i64 (cloE res (vs ++ [(⟨At, ct, to⟩ : ListV)]))]) 1 enInt (CloA res (vs ++ [(⟨At, ct, to⟩ : ListV)])).2 Try.call34 rfl (fun w hp => k_Prices res Ar cr (vs ++ [(⟨At, ct, to⟩ : ListV)]) Aw cw w hp.rd (hp.rdO (fun _ => rfl) (by unfold maxLen; simp; omega)) (fun r h => hgw r w h hp.below)) rfl (fun A135 c135 fp135 hfp135 => ?_)
            refine oj_step (y_move rfl) rfl rfl rfl ?_
            refine oj_step (y_extract rfl rfl) rfl rfl rfl ?_
            refine oj_step (y_extract rfl rfl) rfl rfl rfl ?_
            refine oj_step (y_assign rfl) rfl rfl rfl ?_
            refine oj_step (y_assign rfl) rfl rfl rfl ?_
            refine oj_nil ?_
            refine ej_th (cj_seq (cj_region ?_))
            refine oj_step (y_loadN Try.isAgg60 Try.sizeOf60 rfl) rfl rfl rfl ?_
            refine oj_callS (fun A_ d_ => .tuple #[.slice A_ (CloA (res.set c (min 100000 (res.getD c 0 + ringI n1 1000))) vs).2.length d_, .int .i64 (cloE (res.set c (min 100000 (res.getD c 0 + ringI n1 1000))) vs)]) 1 enInt (CloA (res.set c (min 100000 (res.getD c 0 + ringI n1 1000))) vs).2 Try.call34 rfl (fun w hp => k_PricesN (res.set c (min 100000 (res.getD c 0 + ringI n1 1000))) Ad cd vs Av cv res.length w (hp.rdO (fun _ => rfl) (by unfold maxLen; rw [List.length_set]; omega)) hp.rd (fun r h => (hgv r h).mono hp.below) (by rw [List.length_set])) rfl (fun A140 c140 fp140 hfp140 => ?_)
            refine oj_step (y_move rfl) rfl rfl rfl ?_
            refine oj_step (y_extract rfl rfl) rfl rfl rfl ?_
            refine oj_step (y_extract rfl rfl) rfl rfl rfl ?_
            refine oj_step (y_assign rfl) rfl rfl rfl ?_
            refine oj_step (y_assign rfl) rfl rfl rfl ?_
            refine oj_nil ?_
            refine ej_th (cj_seq (cj_seq ?_))
            refine cj_regionG (gj_step (y_move rfl) rfl rfl rfl (gj_step (y_neq rfl rfl) rfl rfl rfl (gj_step (y_move rfl) rfl rfl rfl (gj_g 2 145 147 rfl rfl rfl rfl (fun hg145 => gj_yes rfl rfl rfl (y_move rfl) rfl rfl (gj_yes rfl rfl rfl (y_neq rfl rfl) rfl rfl (gj_nil rfl))) (gj_step (y_and rfl rfl rfl) rfl rfl rfl (gj_step (y_move rfl) rfl rfl rfl (gj_g 9 149 158 rfl rfl rfl rfl (fun hg149 => gj_yes rfl rfl rfl (y_move rfl) rfl rfl (gj_yes rfl rfl rfl (y_eql rfl rfl) rfl rfl (gj_yes rfl rfl rfl (y_move rfl) rfl rfl (gj_g 5 152 157 rfl rfl rfl rfl (fun hg152 => gj_yes rfl rfl rfl (y_move rfl) rfl rfl (gj_yes rfl rfl rfl (y_lenA Try.underlying43 rfl) rfl rfl (gj_yes rfl rfl rfl (y_move rfl) rfl rfl (gj_yes rfl rfl rfl (y_lenA Try.underlying43 rfl) rfl rfl (gj_yes rfl rfl rfl (y_neq rfl rfl) rfl rfl (gj_nil rfl)))))) (gj_yes rfl rfl rfl (y_and rfl rfl rfl) rfl rfl (gj_nil rfl)))))) (gj_step (y_or rfl rfl rfl) rfl rfl rfl (gj_step (y_move rfl) rfl rfl rfl (gj_g 2 160 162 rfl rfl rfl rfl (fun hg160 => gj_yes rfl rfl rfl (y_move rfl) rfl rfl (gj_yes rfl rfl rfl (y_neq rfl rfl) rfl rfl (gj_nil rfl))) (gj_step (y_or rfl rfl rfl) rfl rfl rfl (gj_step (y_move rfl) rfl rfl rfl (gj_g 5 164 169 rfl rfl rfl rfl (fun hg164 => gj_yes rfl rfl rfl (y_move rfl) rfl rfl (gj_yes rfl rfl rfl (y_lenA Try.underlying43 rfl) rfl rfl (gj_yes rfl rfl rfl (y_move rfl) rfl rfl (gj_yes rfl rfl rfl (y_lenA Try.underlying43 rfl) rfl rfl (gj_yes rfl rfl rfl (y_neq rfl rfl) rfl rfl (gj_nil rfl)))))) (gj_step (y_or rfl rfl rfl) rfl rfl rfl (gj_nil ?_)))))))))))))))
            refine ej_th ?_
            refine cj_cond rfl (fun h170 => ?_) (fun h170 => ?_)
            · exfalso
              rw [ed2, hdl, hcl] at h170
              rcases cloE_or res (vs ++ [(⟨At, ct, to⟩ : ListV)]) with h | h
              · rw [h, hwl h] at h170
                exact absurd h170 (by simp)
              · rw [h] at h170
                exact absurd h170 (by simp)
            · have h170b := h170
              try simp only [sxb] at h170
              refine cj_skip (ej_th (cj_seq (cj_seq ?_)))
              refine cj_regionG (gj_step (y_assign rfl) rfl rfl rfl (gj_nil ?_))
              refine ej_th (cj_block ?_)
              refine cj_lpic (X := Nat) [(7, _), (15, _), (16, _), (17, _)] (fun j => j ≤ (CloA res vs).2.length) (fun j => [(19, .int .i64 (j : Nat))]) (fun j => (CloA res vs).2.length - j) 0 (Nat.zero_le _) ⟨rfl, rfl, rfl, rfl, rfl, trivial⟩ ?_
              rintro j hj
              dsimp only [List.cons_append, List.nil_append]
              refine cj_seq (cj_seq ?_)
              refine cj_regionG (gj_step (y_move rfl) rfl rfl rfl (gj_step (y_move rfl) rfl rfl rfl (gj_step (y_lenA Try.underlying43 rfl) rfl rfl rfl (gj_step (y_lss rfl rfl) rfl rfl rfl (gj_nil ?_)))))
              refine ej_th ?_
              refine cj_cond rfl (fun h174 => ?_) (fun h174 => ?_)
              · have h174b := h174
                try simp only [sxb] at h174
                have hj5 : j < res.length := by omega
                have hpj := hpx j hj5
                have hql := hwl
                have hrwv : rowsV (vs ++ [(⟨At, ct, to⟩ : ListV)]) = rowsV vs ++ [to] := by simp [rowsV]
                have hqx : cloE res (vs ++ [(⟨At, ct, to⟩ : ListV)]) = 0 → (CloA res (vs ++ [(⟨At, ct, to⟩ : ListV)])).2[j]? = some (priceC res (rowsV (vs ++ [(⟨At, ct, to⟩ : ListV)])) j) := fun h => by rw [← prices_get res _ hj5, (cloA_yes (cloE_iff.1 h)).1]; exact gD (by rw [prices_len]; exact hj5)
                have hrj2 : (CloA (res.set c (min 100000 (res.getD c 0 + ringI n1 1000))) vs).2[j]? = some (priceC (res.set c (min 100000 (res.getD c 0 + ringI n1 1000))) (rowsV vs) j) := by rw [← prices_get _ _ (by rw [List.length_set]; exact hj5), ed]; exact gD (by rw [prices_len, List.length_set]; exact hj5)
                have hdr := dear_price (c := c) (v := min 100000 (res.getD c 0 + ringI n1 1000)) hco hcd (by omega) (by omega) hj5
                have hwd : cloE res (vs ++ [(⟨At, ct, to⟩ : ListV)]) = 0 → (priceC res (rowsV vs) j) ≤ priceC res (rowsV (vs ++ [(⟨At, ct, to⟩ : ListV)])) j := fun h => by
                  obtain ⟨hcw, _, _⟩ := clo_ok (cloE_iff.1 h)
                  rw [hrwv] at hcw ⊢
                  exact wide_price hco hcw hj5
                refine cj_skip (ej_th (cj_seq (cj_block (cj_seq ?_))))
                refine cj_draw (by kernel_rfl) (by kernel_rfl) (gj_step (y_move rfl) rfl rfl rfl (gj_step (y_eql rfl rfl) rfl rfl rfl (gj_step (y_move rfl) rfl rfl rfl (gj_g 9 179 188 rfl rfl rfl rfl (fun hg179 => gj_yes rfl rfl rfl (y_move rfl) rfl rfl (gj_yes rfl rfl rfl (y_move rfl) rfl rfl (gj_yes rfl rfl rfl (y_ixR (reads_sl) Try.underlying43 Try.sizeOf3 rfl rfl (⟨by omega, by have h9 := hql (by simpa using hg179); omega⟩)) rfl rfl (gj_yes rfl rfl rfl (y_ld0 (reads_sl) Try.isAgg3 rfl ((hqx (by simpa using hg179))) rfl) rfl rfl (gj_yes rfl rfl rfl (y_move rfl) rfl rfl (gj_yes rfl rfl rfl (y_move rfl) rfl rfl (gj_yes rfl rfl rfl (y_ixR (reads_sl) Try.underlying43 Try.sizeOf3 rfl rfl (⟨by omega, by omega⟩)) rfl rfl (gj_yes rfl rfl rfl (y_ld0 (reads_sl) Try.isAgg3 rfl (hpj) rfl) rfl rfl (gj_yes rfl rfl rfl (y_lss rfl rfl) rfl rfl (gj_nil rfl)))))))))) (gj_step (y_and rfl rfl rfl) rfl rfl rfl (gj_step (y_move rfl) rfl rfl rfl (gj_g 9 190 199 rfl rfl rfl rfl (fun hg190 => gj_yes rfl rfl rfl (y_move rfl) rfl rfl (gj_yes rfl rfl rfl (y_move rfl) rfl rfl (gj_yes rfl rfl rfl (y_ixR (reads_sl) Try.underlying43 Try.sizeOf3 rfl rfl (⟨by omega, by omega⟩)) rfl rfl (gj_yes rfl rfl rfl (y_ld0 (reads_sl) Try.isAgg3 rfl (hrj2) rfl) rfl rfl (gj_yes rfl rfl rfl (y_move rfl) rfl rfl (gj_yes rfl rfl rfl (y_move rfl) rfl rfl (gj_yes rfl rfl rfl (y_ixR (reads_sl) Try.underlying43 Try.sizeOf3 rfl rfl (⟨by omega, by omega⟩)) rfl rfl (gj_yes rfl rfl rfl (y_ld0 (reads_sl) Try.isAgg3 rfl (hpj) rfl) rfl rfl (gj_yes rfl rfl rfl (y_lss rfl rfl) rfl rfl (gj_nil rfl)))))))))) (gj_step (y_or rfl rfl rfl) rfl rfl rfl (gj_nil ?_)))))))))
                refine ej_th ?_
                refine cj_cond rfl (fun h200 => ?_) (fun h200 => ?_)
                · exfalso
                  rw [decide_eq_false (show ¬ priceC (res.set c (min 100000 (res.getD c 0 + ringI n1 1000))) (rowsV vs) j < (priceC res (rowsV vs) j) by omega), Bool.or_false, Bool.and_eq_true, beq_iff_eq, decide_eq_true_iff] at h200
                  have h9 := hwd h200.1
                  omega
                · have h200b := h200
                  try simp only [sxb] at h200
                  refine cj_skip (ej_blk (ej_th ?_))
                  refine cj_regionG (gj_step (y_move rfl) rfl rfl rfl (gj_step (y_add rfl rfl (by omega)) rfl rfl rfl (gj_step (y_assign rfl) rfl rfl rfl (gj_nil ?_))))
                  exact ej_nx (j + 1) (by omega) (by omega) ⟨rfl, rfl, rfl, rfl, rfl, trivial⟩
              · have h174b := h174
                try simp only [sxb] at h174
                refine cj_exit (ej_then_exit (ej_then_exit (ej_blk_hit (ej_th (cj_seq ?_)))))
                refine cj_regionG ?_
                refine gj_step (y_call Try.call21 rfl (fun w hp => k_works w)) rfl rfl rfl ?_
                refine gj_step (y_assign rfl) rfl rfl rfl (?_)
                refine gj_nil ?_
                refine ej_th (cj_ret ?_)
                refine ej_ret1 rfl Try.results9 rfl (fun w' hp => ⟨?_, hp.below⟩)
                rfl

end Go.Proofs.Ytehmifpofpifkaa
