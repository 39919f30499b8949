/- Texts of ours, joined: 11 of them. Conditions: none. -/
import Derived.Test.YtehmifpofpifkaaZj
import Derived.Test.YtehmifpofpifkaaProg
import Derived.Laws.StructEq
namespace Go.Proofs.Ytehmifpofpifkaa
open Go Go.Sx Go.RowKit Am

theorem gD {l : List Int} {i : Nat} (h : i < l.length) : l[i]? = some (l.getD i 0) := by rw [List.getD_eq_getElem?_getD, List.getElem?_eq_getElem h]; rfl
theorem sig_gain {rows : List (List Int)} {ps res to : List Int} {i : Nat} (h : i < to.length) : gt (fun i j => wv res rows i j - (ps.getD j 0 - res.getD j 0)) i (sig to i) = gainF rows ps i (to.getD i 0) := by
  have hx := gD h
  unfold sig gainF
  rw [hx]
  by_cases h0 : 0 ≤ to.getD i 0
  · simp only [if_pos h0, gt]
    unfold wv rv
    omega
  · simp only [if_neg h0, gt]
theorem fairB_iff {res : List Int} {rows : List (List Int)} {ps to : List Int} (hok : OkL res.length to) (htl : to.length = rows.length) :
    fairB res rows ps to = true ↔ FairA rows.length res.length (wv res rows) (sig to) (fun k => ps.getD k 0 - res.getD k 0) := by
  have hv := sig_val hok
  rw [htl] at hv
  unfold fairB
  rw [Bool.and_eq_true, allN_iff, allN_iff]
  have h1 : ∀ k, k < res.length → (f1 res ps to k = true ↔ (0 ≤ ps.getD k 0 - res.getD k 0) ∧ ((∀ i, i < rows.length → sig to i ≠ some k) → ps.getD k 0 - res.getD k 0 = 0)) := fun k hk => by
    unfold f1
    rw [Bool.not_eq_true', Bool.or_eq_false_iff, decide_eq_false_iff_not, Bool.and_eq_false_iff, decide_eq_false_iff_not, Bool.not_eq_false']
    rw [sold_iff, htl]
    constructor
    · rintro ⟨a, b⟩
      refine ⟨by omega, fun hn => ?_⟩
      rcases b with b | ⟨i, hi, e⟩
      · omega
      · exact absurd e (hn i hi)
    · rintro ⟨a, b⟩
      refine ⟨by omega, ?_⟩
      by_cases hs : ∃ i, i < rows.length ∧ sig to i = some k
      · exact .inr hs
      · exact .inl (by have := b (fun i hi e => hs ⟨i, hi, e⟩); omega)
  have h2 : ∀ i, i < rows.length → (f2 res.length rows ps to i = true ↔ 0 ≤ gt (fun i j => wv res rows i j - (ps.getD j 0 - res.getD j 0)) i (sig to i) ∧ ∀ j, j < res.length → wv res rows i j - (ps.getD j 0 - res.getD j 0) ≤ gt (fun i j => wv res rows i j - (ps.getD j 0 - res.getD j 0)) i (sig to i)) := fun i hi => by
    rw [sig_gain (by omega)]
    unfold f2
    rw [Bool.and_eq_true, decide_eq_true_iff, allN_iff]
    have e : ∀ j, f2j rows ps i (gainF rows ps i (to.getD i 0)) j = true ↔ wv res rows i j - (ps.getD j 0 - res.getD j 0) ≤ gainF rows ps i (to.getD i 0) := fun j => by
      unfold f2j
      rw [decide_eq_true_iff]
      unfold wv rv
      omega
    constructor
    · rintro ⟨a, b⟩; exact ⟨a, fun j hj => (e j).1 (b j (Nat.zero_le _) (by omega))⟩
    · rintro ⟨a, b⟩; exact ⟨a, fun j _ hj => (e j).2 (b j (by omega))⟩
  constructor
  · rintro ⟨a, b⟩
    refine ⟨hv, fun j hj => ((h1 j hj).1 (a j (Nat.zero_le _) (by omega))).1, fun j hj hn => ((h1 j hj).1 (a j (Nat.zero_le _) (by omega))).2 hn, fun i j hi e => ?_, fun i j hi hj => ((h2 i hi).1 (b i (Nat.zero_le _) (by omega))).2 j hj⟩
    have h3 := ((h2 i hi).1 (b i (Nat.zero_le _) (by omega))).1
    rw [e] at h3
    simp only [gt] at h3
    omega
  · intro h
    refine ⟨fun k _ hk => (h1 k (by omega)).2 ⟨h.nn k (by omega), h.un k (by omega)⟩, fun i _ hi => (h2 i (by omega)).2 ⟨?_, fun j hj => h.ef i j (by omega) hj⟩⟩
    have := h.gain (i := i) (by omega)
    exact this
theorem prices_len (res : List Int) (rows : List (List Int)) : (pricesL res rows).length = res.length := by simp [pricesL]
theorem prices_get (res : List Int) (rows : List (List Int)) {k : Nat} (hk : k < res.length) : (pricesL res rows).getD k 0 = priceC res rows k := by
  rw [List.getD_eq_getElem?_getD, pricesL, List.getElem?_map, List.getElem?_range hk]; rfl
/-- what is known of a closing -/
structure CloF (res : List Int) (rows : List (List Int)) : Prop where
  ok : OkL res.length (bestF res rows).1
  len : (bestF res rows).1.length = rows.length
  fair : FairA rows.length res.length (wv res rows) (sig (bestF res rows).1) (fun k => (pricesL res rows).getD k 0 - res.getD k 0)
  max : IsMax rows.length res.length (wv res rows) ((bestF res rows).2 - sumR res)
  pr : ∀ k, k < res.length → IsMax rows.length (res.length + 1) (dup res.length k (wv res rows)) (priceC res rows k - rv res k + ((bestF res rows).2 - sumR res))
  wt : wt rows.length (wv res rows) (sig (bestF res rows).1) = (bestF res rows).2 - sumR res
theorem fairA_congr {n m : Nat} {w : Nat → Nat → Int} {σ : Nat → Option Nat} {q q' : Nat → Int} (h : FairA n m w σ q) (e : ∀ j, j < m → q j = q' j) : FairA n m w σ q' := by
  have hg : ∀ i, i < n → gt (fun i j => w i j - q j) i (σ i) = gt (fun i j => w i j - q' j) i (σ i) := fun i hi => by
    cases hs : σ i with
    | none => rfl
    | some j => simp only [gt]; rw [e j (h.val.lot i j hi hs)]
  exact ⟨h.val, fun j hj => e j hj ▸ h.nn j hj, fun j hj hn => e j hj ▸ h.un j hj hn, fun i j hi hs => e j (h.val.lot i j hi hs) ▸ h.ir i j hi hs, fun i j hi hj => by rw [← e j hj, ← hg i hi]; exact h.ef i j hi hj⟩
theorem cloF {res : List Int} {rows : List (List Int)} (h : CloOk res rows) : CloF res rows := by
  obtain ⟨a, b, c, d, e⟩ := best_spec h.nn.1 h.nn.2
  have hp := fun k => price_max h.nn.1 h.nn.2 h.len k
  have hv := sig_val a
  rw [b] at hv
  have hf := fair_least d (fun k _ => hp k) hv e
  refine ⟨a, b, fairA_congr hf fun j hj => ?_, d, fun k _ => hp k, e⟩
  rw [prices_get res rows hj]
  unfold rv
  omega
/-- a price lies between the reserve and what somebody would give -/
theorem price_bdV {res : List Int} {rows : List (List Int)} (h : CloOk res rows) {k : Nat} (hk : k < res.length) {V : Int} (h1 : res.getD k 0 ≤ V) (h2 : ∀ i, i < rows.length → vv rows i k ≤ V) : res.getD k 0 ≤ priceC res rows k ∧ priceC res rows k ≤ V := by
  have hf := cloF h
  have a := hf.fair.nn k hk
  rw [prices_get res rows hk] at a
  have b := price_le hf.max (hf.pr k hk) (V := V - rv res k) (by unfold rv; omega) (fun i hi => by
    have := h2 i hi
    unfold wv rv; omega)
  unfold rv at b
  omega
theorem price_100 {res : List Int} {rows : List (List Int)} (h : CloOk res rows) {k : Nat} (hk : k < res.length) : 0 ≤ priceC res rows k ∧ priceC res rows k ≤ 100000 := by
  have hr := h.res _ (getD_mem (l := res) (d := 0) hk)
  have := price_bdV h hk (V := 100000) hr.2 (fun i hi => by
    unfold vv
    have h1 : rows[i]? = some (rows.getD i []) := by rw [List.getD_eq_getElem?_getD, List.getElem?_eq_getElem hi]; rfl
    have h2 := List.mem_of_getElem? h1
    have h3 := h.len _ h2
    exact (h.val _ h2 _ (getD_mem (by omega))).2)
  omega
theorem okF_of {m n : Nat} {to : List Int} (h : OkL m to) (hl : to.length = n) : fitsB m n to = true := by
  unfold fitsB
  rw [(okF_ok m to).2 h, decide_eq_true (by omega)]; rfl
theorem awB_clo {res : List Int} {vs : List ListV} (h : cloB res vs = true) : awB res vs (bestF res (rowsV vs)).1 (pricesL res (rowsV vs)) = true := by
  obtain ⟨hco, _, _⟩ := clo_ok h
  have hf := cloF hco
  unfold awB
  rw [okF_of hf.ok (by rw [hf.len, rowsV_len]), Bool.true_and, Bool.and_eq_true, beq_iff_eq, prices_len, List.all_eq_true]
  refine ⟨rfl, fun p hp => ?_⟩
  obtain ⟨k, hk, rfl⟩ := List.mem_map.1 hp
  exact btw_t.2 (price_100 hco (by simpa using hk))
/-- the award of Close is fair -/
theorem fair_clo {res : List Int} {vs : List ListV} (h : cloB res vs = true) : FairV res vs (CloA res vs).1 (CloA res vs).2 = true ∧ FairE res vs (CloA res vs).1 (CloA res vs).2 = 0 := by
  obtain ⟨hco, _, _⟩ := clo_ok h
  have hf := cloF hco
  obtain ⟨e, _⟩ := cloA_yes h
  rw [e]
  obtain ⟨e1, e2⟩ := fair_yes h (awB_clo h)
  refine ⟨?_, e2⟩
  rw [e1, fairB_iff hf.ok hf.len]
  exact hf.fair
theorem cloE_iff {res : List Int} {vs : List ListV} : cloE res vs = 0 ↔ cloB res vs = true := by
  unfold cloE
  split <;> simp_all
theorem fairE_ne {res : List Int} {vs : List ListV} {to ps : List Int} (h : cloB res vs = true) : FairE res vs to ps = 0 ∨ FairE res vs to ps = 63 := by
  unfold FairE
  rw [if_pos h]
  split
  · exact .inl rfl
  · exact .inr rfl
theorem fair_true {res : List Int} {vs : List ListV} {to ps : List Int} (h2 : FairV res vs to ps = true) : ps.length = res.length ∧ FairA (rowsV vs).length res.length (wv res (rowsV vs)) (sig to) (fun k => ps.getD k 0 - res.getD k 0) := by
  unfold FairV at h2
  rw [Bool.and_eq_true, Bool.and_eq_true] at h2
  obtain ⟨⟨hok, htl⟩, hpl, _⟩ := aw_ok h2.1.2
  exact ⟨hpl, (fairB_iff hok (by rw [htl, rowsV_len])).1 h2.2⟩
/-- no fair award has a lesser price -/
theorem least_price {res : List Int} {vs : List ListV} {to ps : List Int} (h : cloB res vs = true) (h2 : FairV res vs to ps = true) {k : Nat} (hk : k < res.length) : priceC res (rowsV vs) k ≤ ps.getD k 0 := by
  obtain ⟨hco, _, _⟩ := clo_ok h
  have hf := cloF hco
  obtain ⟨_, hfa⟩ := fair_true h2
  have := hfa.least hf.max (hf.pr k hk) hk
  unfold rv at this
  omega
/-- the award of Close is worth most -/
theorem most_worth {res : List Int} {vs : List ListV} {to : List Int} (h : cloB res vs = true) (h2 : WorE res vs to = 0) : WorV res vs to ≤ WorV res vs (CloA res vs).1 := by
  obtain ⟨hco, _, _⟩ := clo_ok h
  have hf := cloF hco
  have hy : fitsB res.length vs.length to = true := by
    unfold WorE at h2
    rw [if_pos h] at h2
    split at h2
    · assumption
    · cases h2
  obtain ⟨hok, htl⟩ := fits_ok hy
  obtain ⟨e, _⟩ := cloA_yes h
  rw [e]
  unfold WorV
  rw [if_pos ⟨h, hy⟩, if_pos ⟨h, okF_of hf.ok (by rw [hf.len, rowsV_len])⟩, worthP_eq hok, worthP_eq hf.ok, hf.len, hf.wt, htl]
  have hv := sig_val hok
  rw [htl, ← rowsV_len vs] at hv
  have := hf.max.le _ hv
  rw [rowsV_len] at this
  omega
theorem worE_clo {res : List Int} {vs : List ListV} (h : cloB res vs = true) : WorE res vs (CloA res vs).1 = 0 := by
  obtain ⟨hco, _, _⟩ := clo_ok h
  have hf := cloF hco
  obtain ⟨e, _⟩ := cloA_yes h
  rw [e]
  unfold WorE
  rw [if_pos h, if_pos (okF_of hf.ok (by rw [hf.len, rowsV_len]))]
theorem encLs_len (x : ListV) : (encLs x).length = 1 := rfl
theorem cloE_or (res : List Int) (vs : List ListV) : cloE res vs = 0 ∨ cloE res vs = 62 := by
  unfold cloE
  split
  · exact .inl rfl
  · exact .inr rfl
/-! ### What a bidder gains -/
def gainE (vals to ps : List Int) (i : Nat) : Int × Bool :=
  if to.length ≤ i then (0, false) else if to.getD i 0 = -1 then (0, true) else
  if !(btw 0 (to.getD i 0) ((ps.length : Int) - 1)) || decide ((vals.length : Int) ≤ to.getD i 0) then (0, false) else (vals.getD (to.getD i 0).toNat 0 - ps.getD (to.getD i 0).toNat 0, true)
theorem row_get {rows : List (List Int)} {i : Nat} {l : List Int} (h : rows[i]? = some l) (j : Nat) : vv rows i j = l.getD j 0 := by
  unfold vv
  rw [List.getD_eq_getElem?_getD (l := rows), h]; rfl
theorem gainE_ok {rows : List (List Int)} {vals to ps : List Int} {i m : Nat} (hr : rows[i]? = some vals) (hl : vals.length = m) (hp : ps.length = m) (hok : OkL m to) (hi : i < to.length) : gainE vals to ps i = (gainF rows ps i (to.getD i 0), true) := by
  have hx := hok.rng _ (getD_mem (l := to) (d := 0) hi)
  unfold gainE gainF
  rw [if_neg (by omega)]
  by_cases h1 : to.getD i 0 = -1
  · rw [if_pos h1, h1]; rfl
  · have e1 : btw 0 (to.getD i 0) ((ps.length : Int) - 1) = true := btw_t.2 (by omega)
    rw [if_neg h1, e1, decide_eq_false (by omega), row_get hr]
    simp only [Bool.not_true, Bool.or_false, Bool.false_eq_true, if_false]
    rw [if_pos (by omega)]
theorem gt_congr {f g : Nat → Nat → Int} {i : Nat} {s : Option Nat} (h : ∀ j, s = some j → f i j = g i j) : gt f i s = gt g i s := by
  cases s with
  | none => rfl
  | some j => exact h j rfl
theorem clo_sig {res : List Int} {rows : List (List Int)} (h : CloOk res rows) {res2 : List Int} {rows2 : List (List Int)} {i : Nat} (hi : i < rows.length) {M : Int} (hr : res2 = res) (hM : M = (bestF res rows).2 - sumR res) :
    gt (fun i j => wv res2 rows2 i j - (priceC res rows j - rv res j + M - M)) i (sig (bestF res rows).1 i) = gainF rows2 (pricesL res rows) i ((bestF res rows).1.getD i 0) := by
  subst hr
  have hf := cloF h
  have hv := sig_val hf.ok
  rw [hf.len] at hv
  rw [← sig_gain (res := res2) (by rw [hf.len]; exact hi)]
  refine gt_congr fun j hj => ?_
  have := hv.lot i j hi hj
  rw [prices_get res2 rows this]
  unfold rv
  omega
/-- nobody gains by a lie -/
theorem truth_gain {res : List Int} {rows rows2 : List (List Int)} (h : CloOk res rows) (h2 : CloOk res rows2) (hl : rows2.length = rows.length) {i : Nat} (hi : i < rows.length) (hne : ∀ k, k ≠ i → rows2[k]? = rows[k]?) :
    gainF rows (pricesL res rows2) i ((bestF res rows2).1.getD i 0) ≤ gainF rows (pricesL res rows) i ((bestF res rows).1.getD i 0) := by
  have hf := cloF h
  have hf2 := cloF h2
  have hv := sig_val hf.ok
  have hv2 := sig_val hf2.ok
  rw [hf.len] at hv
  rw [hf2.len, hl] at hv2
  have hm2 := hf2.max
  have hp2 := hf2.pr
  have hw2 := hf2.wt
  rw [hl] at hm2 hp2 hw2
  have := truth (w := wv res rows) (w' := wv res rows2) hi (fun k _ hk j => by
    have e : rows2.getD k [] = rows.getD k [] := by rw [List.getD_eq_getElem?_getD, List.getD_eq_getElem?_getD, hne k hk]
    unfold wv vv; rw [e]) hf.max hf.pr hv hf.wt hm2 hp2 hv2 hw2
  rw [clo_sig h hi rfl rfl, clo_sig h2 (by rw [hl]; exact hi) rfl rfl] at this
  exact this
theorem gain_nn {res : List Int} {rows : List (List Int)} (h : CloOk res rows) {i : Nat} (hi : i < rows.length) : 0 ≤ gainF rows (pricesL res rows) i ((bestF res rows).1.getD i 0) := by
  have hf := cloF h
  have := hf.fair.gain hi
  rw [sig_gain (by rw [hf.len]; exact hi)] at this
  exact this
theorem gainF_bd {rows : List (List Int)} {ps : List Int} {i : Nat} {x : Int} (h1 : ∀ r ∈ rows, ∀ v ∈ r, 0 ≤ v ∧ v ≤ 100000) (h2 : ∀ p ∈ ps, 0 ≤ p ∧ p ≤ 100000) : -100000 ≤ gainF rows ps i x ∧ gainF rows ps i x ≤ 100000 := by
  have g0 : ∀ (l : List Int), (∀ v ∈ l, 0 ≤ v ∧ v ≤ 100000) → ∀ k, 0 ≤ l.getD k 0 ∧ l.getD k 0 ≤ 100000 := fun l hl k => by
    by_cases hk : k < l.length
    · exact hl _ (getD_mem hk)
    · rw [List.getD_eq_getElem?_getD, List.getElem?_eq_none (by omega)]; simp
  unfold gainF
  split
  · have a := g0 ps h2 x.toNat
    have b : 0 ≤ vv rows i x.toNat ∧ vv rows i x.toNat ≤ 100000 := by
      unfold vv
      by_cases hi : i < rows.length
      · have h3 : rows[i]? = some (rows.getD i []) := by rw [List.getD_eq_getElem?_getD, List.getElem?_eq_getElem hi]; rfl
        exact g0 _ (h1 _ (List.mem_of_getElem? h3)) _
      · rw [show rows.getD i [] = [] by rw [List.getD_eq_getElem?_getD, List.getElem?_eq_none (by omega)]; rfl]; simp
    omega
  · omega
theorem prices_bd {res : List Int} {rows : List (List Int)} (h : CloOk res rows) : ∀ p ∈ pricesL res rows, 0 ≤ p ∧ p ≤ 100000 := fun p hp => by
  obtain ⟨k, hk, rfl⟩ := List.mem_map.1 hp
  exact price_100 h (by simpa using hk)
/-! ### One more bidder, a greater reserve -/
theorem wide_price {res : List Int} {rows : List (List Int)} {l : List Int} (h : CloOk res rows) (h2 : CloOk res (rows ++ [l])) {k : Nat} (hk : k < res.length) : priceC res rows k ≤ priceC res (rows ++ [l]) k := by
  have hf := cloF h
  have hf2 := cloF h2
  have hl : (rows ++ [l]).length = rows.length + 1 := by simp
  have hm2 := hf2.max
  have hp2 := hf2.pr k hk
  rw [hl] at hm2 hp2
  have hw : ∀ i j, i < rows.length → wv res rows i j = wv res (rows ++ [l]) i j := fun i j hi => by
    have e : rows.getD i [] = (rows ++ [l]).getD i [] := by rw [List.getD_eq_getElem?_getD, List.getD_eq_getElem?_getD, List.getElem?_append_left hi]
    unfold wv vv; rw [e]
  have := more_bidder (hf.max.congr fun i j hi _ => hw i j hi) ((hf.pr k hk).congr fun i j hi _ => by unfold dup; exact hw i _ hi) hm2 hp2
  omega
theorem dear_price {res : List Int} {rows : List (List Int)} {c : Nat} {v : Int} (h : CloOk res rows) (h2 : CloOk (res.set c v) rows) (hc : c < res.length) (hv : res.getD c 0 ≤ v) {k : Nat} (hk : k < res.length) : priceC res rows k ≤ priceC (res.set c v) rows k := by
  have hf := cloF h
  have hf2 := cloF h2
  have hl : (res.set c v).length = res.length := by simp
  have hm2 := hf2.max
  have hp2 := hf2.pr k (by omega)
  rw [hl] at hm2 hp2
  have hg : ∀ j, (res.set c v).getD j 0 = res.getD j 0 + (if j = c then v - res.getD c 0 else 0) := fun j => by
    rw [List.getD_eq_getElem?_getD, List.getElem?_set]
    by_cases e : c = j
    · subst e; rw [if_pos rfl, if_pos hc, if_pos rfl]; simp only [Option.getD_some]; omega
    · rw [if_neg e, if_neg (fun e2 => e e2.symm), List.getD_eq_getElem?_getD]; omega
  have := more_reserve (c := c) (d := v - res.getD c 0) (w' := wv (res.set c v) rows) (by omega) (fun i j => by unfold wv rv; rw [hg j]; omega) hf.max (hf.pr k hk) hm2 hp2
  have e := hg k
  unfold rv at this
  rw [e] at this
  omega
theorem clo_set {res : List Int} {rows : List (List Int)} {c : Nat} {v : Int} (h : CloOk res rows) (hv : 0 ≤ v ∧ v ≤ 100000) : ∀ x ∈ res.set c v, 0 ≤ x ∧ x ≤ 100000 := fun x hx => by
  rcases List.mem_or_eq_of_mem_set hx with h1 | h1
  · exact h.res x h1
  · rw [h1]; exact hv
theorem cloB_set {res : List Int} {vs : List ListV} {c : Nat} {v : Int} (h : cloB res vs = true) (hv : 0 ≤ v ∧ v ≤ 100000) : cloB (res.set c v) vs = true := by
  obtain ⟨hco, _, _⟩ := clo_ok h
  unfold cloB at h ⊢
  rw [Bool.and_eq_true, Bool.and_eq_true, Bool.and_eq_true] at h ⊢
  rw [List.length_set]
  refine ⟨⟨⟨h.1.1.1, List.all_eq_true.2 fun x hx => btw_t.2 (clo_set hco hv x hx)⟩, h.1.2⟩, h.2⟩
def mostV (rows : List (List Int)) (j : Nat) : List (List Int) → Int → Int
  | [], b => b
  | r :: l, b => mostV rows j l (if j < r.length then max b (r.getD j 0) else b)
end Go.Proofs.Ytehmifpofpifkaa
namespace Go.Proofs.Ytehmifpofpifkaa
open Go Go.Sx Go.RowKit Am

/-! ### Rings -/
theorem pw_of : ∀ m : Fin 256, ∀ k : Fin 8, popc m.val ≤ 1 → m.val.testBit k.val = true → m.val = 2 ^ k.val := by decide +kernel
theorem pc_of : ∀ m : Fin 256, (∀ k : Fin 8, m.val.testBit k.val = true → m.val = 2 ^ k.val) → popc m.val ≤ 1 := by decide +kernel
theorem one_of {m k : Nat} (hm : m < 256) (hk : k < 8) (h : popc m ≤ 1) (hb : m.testBit k = true) : m = 2 ^ k := pw_of ⟨m, hm⟩ ⟨k, hk⟩ h hb
theorem one_to {m : Nat} (hm : m < 256) (h : ∀ k, k < 8 → m.testBit k = true → m = 2 ^ k) : popc m ≤ 1 := pc_of ⟨m, hm⟩ (fun k hb => h k.val k.isLt hb)
theorem and_lt {n s : Nat} (h : n < 256) : n &&& s < 256 := Nat.lt_of_le_of_lt Nat.and_le_left h
theorem ringE_0 {past : List Int} {few : Int} (h : ringE past few = 0) : pastB past = true ∧ btw 1 few 64 = true := by
  unfold ringE at h
  split at h
  · rename_i h1
    split at h
    · rename_i h2; exact ⟨h1, h2⟩
    · cases h
  · cases h
theorem ringS_mem {ns : List Nat} {fw s : Nat} : s ∈ ringS ns fw ↔ s < 256 ∧ topB (ringB ns fw) s = true := by
  unfold ringS
  rw [(List.mergeSort_perm _ _).mem_iff]
  exact topL_mem
theorem ringS_nd (ns : List Nat) (fw : Nat) : (ringS ns fw).Nodup := by
  unfold ringS
  rw [(List.mergeSort_perm _ _).nodup_iff]
  exact (List.nodup_range.filter _).filter _
theorem ringS_ring {ns : List Nat} {fw s : Nat} (h : s ∈ ringS ns fw) : s < 256 ∧ ringB ns fw s = true := ⟨(ringS_mem.1 h).1, (topB_iff.1 (ringS_mem.1 h).2).1⟩
theorem ringS_apart {ns : List Nat} {fw i k a b : Nat} (ha : (ringS ns fw)[i]? = some a) (hb : (ringS ns fw)[k]? = some b) (hne : k ≠ i) : a &&& b ≠ a := by
  have h1 := (ringS_mem.1 (List.mem_of_getElem? ha)).2
  obtain ⟨h2, h3⟩ := ringS_ring (List.mem_of_getElem? hb)
  refine (topB_iff.1 h1).2 b h2 h3 (fun e => hne ?_)
  obtain ⟨i1, e1⟩ := List.getElem?_eq_some_iff.1 ha
  obtain ⟨k1, e2⟩ := List.getElem?_eq_some_iff.1 hb
  have hp := List.pairwise_iff_getElem.1 (ringS_nd ns fw)
  rcases Nat.lt_trichotomy i k with h | h | h
  · exact absurd (by rw [e1, e2, e]) (hp i k i1 k1 h)
  · exact h.symm
  · exact absurd (by rw [e1, e2, e]) (hp k i k1 i1 h)
theorem ringS_all {ns : List Nat} {fw s : Nat} (hs : s < 256) (h : ringB ns fw s = true) : ∃ i t : Nat, (ringS ns fw)[i]? = some t ∧ t &&& s = s := by
  obtain ⟨t, h1, h2, h3⟩ := exists_top (ringB ns fw) 8 s hs h (by omega)
  obtain ⟨i, hi⟩ := List.mem_iff_getElem?.1 (ringS_mem.2 ⟨h1, h2⟩ : t ∈ ringS ns fw)
  exact ⟨i, t, hi, by rw [and_comm']; exact h3⟩
/-! ### Another order -/
theorem encBi_len (x : BidV) : (encBi x).length = 3 := rfl
def mixAt (bits : List Int) (i : Nat) : Nat := (ringI (pickI bits i) ((i : Int) + 1)).toNat
def mixS (bits : List Int) (out : List BidV) (i : Nat) (b : BidV) : List BidV := (out.take (mixAt bits i) ++ [b]) ++ out.drop (mixAt bits i)
def mixG (bits : List Int) : List BidV → Nat → List BidV → List BidV
  | [], _, out => out
  | b :: l, i, out => mixG bits l (i + 1) (mixS bits out i b)
theorem mixG_drop (bits : List Int) (bs out : List BidV) (k : Nat) (b : BidV) (h : bs[k]? = some b) : mixG bits (bs.drop k) k out = mixG bits (bs.drop (k + 1)) (k + 1) (mixS bits out k b) := by
  obtain ⟨h1, h2⟩ := List.getElem?_eq_some_iff.1 h
  rw [List.drop_eq_getElem_cons h1, h2, mixG]
theorem mixS_perm (bits : List Int) (out : List BidV) (i : Nat) (b : BidV) : (mixS bits out i b).Perm (out ++ [b]) := by
  unfold mixS
  have h1 : ((out.take (mixAt bits i) ++ [b]) ++ out.drop (mixAt bits i)).Perm ((out.take (mixAt bits i) ++ out.drop (mixAt bits i)) ++ [b]) := by
    rw [List.append_assoc, List.append_assoc]
    exact List.Perm.append_left _ List.perm_append_comm
  rw [List.take_append_drop] at h1
  exact h1
theorem mixS_len (bits : List Int) (out : List BidV) (i : Nat) (b : BidV) : (mixS bits out i b).length = out.length + 1 := by rw [(mixS_perm bits out i b).length_eq]; simp
theorem mixG_perm (bits : List Int) : ∀ (l : List BidV) (i : Nat) (out : List BidV), (mixG bits l i out).Perm (out ++ l)
  | [], _, out => by rw [List.append_nil]; exact .refl _
  | b :: l, i, out => by
    have h1 := mixG_perm bits l (i + 1) (mixS bits out i b)
    refine h1.trans ?_
    have h2 := (mixS_perm bits out i b).append_right l
    rw [List.append_assoc] at h2
    exact h2
theorem mixed_perm (bits : List Int) (bs : List BidV) : (mixG bits bs 0 []).Perm bs := mixG_perm bits bs 0 []
theorem mixAt_bd (bits : List Int) (i : Nat) : ringI (pickI bits i) ((i : Int) + 1) = (mixAt bits i : Int) ∧ mixAt bits i ≤ i := by
  have := ringI_bd (pickI bits i) ((i : Int) + 1) (by omega)
  unfold mixAt
  omega
theorem bidsB_perm {bs cs : List BidV} (h : cs.Perm bs) : bidsB cs = bidsB bs := by
  unfold bidsB
  rw [h.length_eq]
  congr 1
  rw [Bool.eq_iff_iff, List.all_eq_true, List.all_eq_true]
  exact ⟨fun h1 x hx => h1 x (h.mem_iff.2 hx), fun h1 x hx => h1 x (h.mem_iff.1 hx)⟩
theorem sellE_perm {st rv : Int} {lad : List RiseV} {bs cs : List BidV} (h : cs.Perm bs) : SellE st rv lad cs = SellE st rv lad bs := by unfold SellE; rw [bidsB_perm h]
theorem offs_perm {rs : List Int} {bs cs : List BidV} (h : cs.Perm bs) : (offs rs cs).Perm (offs rs bs) := (h.map _).filter _
theorem offs_pos {rs : List Int} {bs : List BidV} : ∀ o ∈ offs rs bs, 1 ≤ o.most := fun o ho => by
  have := (List.mem_filter.1 ho).2
  have := of_decide_eq_true this
  omega
theorem sellV_perm {st rv : Int} {lad : List RiseV} {bs cs : List BidV} (h : cs.Perm bs) : SellV st rv lad cs = SellV st rv lad bs := by
  unfold SellV
  rw [bidsB_perm h, knock_perm (offs_perm h) offs_pos]
theorem roomL_len_perm {st rv : Int} {lad : List RiseV} {bs cs : List BidV} (h : cs.Perm bs) : (RoomL st rv lad cs).length = (RoomL st rv lad bs).length := by
  unfold RoomL
  rw [bidsB_perm h]
  split
  · rw [roomG_len, roomG_len, h.length_eq]
  · rfl
theorem sellE_0 {st rv : Int} {lad : List RiseV} {bs : List BidV} (h : SellE st rv lad bs = 0) : lotB st rv lad = true ∧ bidsB bs = true := by
  unfold SellE at h
  split at h
  · rename_i h1
    split at h
    · rename_i h2; exact ⟨h1, h2⟩
    · cases h
  · cases h
theorem sellE_ne {st rv : Int} {lad : List RiseV} {bs : List BidV} (h : SellE st rv lad bs ≠ 0) : SellV st rv lad bs = ⟨0, 0⟩ := by
  unfold SellV
  rw [if_neg]
  rintro ⟨h1, h2⟩
  apply h
  unfold SellE
  rw [if_pos h1, if_pos h2]
theorem room_nil {st rv : Int} {lad : List RiseV} {bs : List BidV} (h : SellE st rv lad bs = 0) (h2 : (RoomL st rv lad bs).length = 0) : SellV st rv lad bs = ⟨-1, 0⟩ := by
  obtain ⟨h3, h4⟩ := sellE_0 h
  unfold RoomL at h2
  rw [if_pos ⟨h3, h4⟩, roomG_len] at h2
  have : bs = [] := List.eq_nil_of_length_eq_zero h2
  subst this
  unfold SellV
  rw [if_pos ⟨h3, h4⟩]
  rfl
theorem room_last {st rv : Int} {lad : List RiseV} {bs : List BidV} (h : SellE st rv lad bs = 0) {n : Nat} (hn : n + 1 = (RoomL st rv lad bs).length) : (RoomL st rv lad bs)[n]? = some (roomE (rgL lad st) st bs) := by
  obtain ⟨h3, h4⟩ := sellE_0 h
  unfold RoomL at hn ⊢
  rw [if_pos ⟨h3, h4⟩] at hn ⊢
  rw [roomG_len] at hn
  rw [roomG_get (rgL lad st) st bs lead0 n (by omega), List.take_of_length_le (by omega)]
  rfl
theorem room_last_perm {st rv : Int} {lad : List RiseV} {bs cs : List BidV} (hp : cs.Perm bs) (h : SellE st rv lad bs = 0) {n : Nat} (hn : n + 1 = (RoomL st rv lad bs).length) : (RoomL st rv lad cs)[n]? = some (roomE (rgL lad st) st bs) := by
  have h2 : SellE st rv lad cs = 0 := by rw [sellE_perm hp]; exact h
  rw [room_last h2 (by rw [roomL_len_perm hp]; exact hn)]
  obtain ⟨_, h4⟩ := sellE_0 h2
  rw [lead_perm hp (fun b hb => ((bids_ok h4).2 b hb).1)]
theorem sell_lead {st rv : Int} {lad : List RiseV} {bs : List BidV} (h : SellE st rv lad bs = 0) :
    SellV st rv lad bs = if (roomE (rgL lad st) st bs).who = -1 ∨ leastR st rv lad = 0 ∨ (roomE (rgL lad st) st bs).limit < leastR st rv lad then ⟨-1, 0⟩ else ⟨(roomE (rgL lad st) st bs).who, max (leastR st rv lad) (roomE (rgL lad st) st bs).price⟩ := by
  obtain ⟨h3, h4⟩ := sellE_0 h
  unfold SellV
  rw [if_pos ⟨h3, h4⟩]
  exact knock_lead bs (fun b hb => ((bids_ok h4).2 b hb).1)
theorem floorR {st rv : Int} {lad : List RiseV} (h : lotB st rv lad = true) : floorF (rgL lad st) st rv = (leastR st rv lad, !(leastR st rv lad == 0)) := by
  have hok := lot_ok h
  exact floor_eq hok.lad hok.st.1 hok.st.2
theorem rung_idem {st rv : Int} {lad : List RiseV} (h : LotOk st rv lad) {n : Int} (hp : 0 < rungR st lad n) : rungR st lad (rungR st lad n) = rungR st lad n := by
  have ha := rgL_asc h.lad h.st.1
  unfold rungR at hp ⊢
  rcases rungF_spec (n := n) (rgL lad st) 0 ha with ⟨e, _⟩ | ⟨h1, _, _⟩
  · omega
  · rcases rungF_spec (n := rungF n (rgL lad st) 0) (rgL lad st) 0 ha with ⟨_, h3⟩ | ⟨_, h4, h5⟩
    · exact absurd (h3 _ h1) (by omega)
    · have := h5 _ h1 (Int.le_refl _); omega
/-! ### What is paid -/
theorem behF_gt {n : Int} : ∀ (rs : List Int), behF n rs = 0 ∨ n < behF n rs
  | [] => .inl rfl
  | p :: l => by
    rw [behF]
    split
    · rename_i h; exact .inr h
    · exact behF_gt l
theorem behF_mono {n m : Int} (hnm : n ≤ m) : ∀ (rs : List Int), rs.Pairwise (· < ·) → behF m rs = 0 ∨ behF n rs ≤ behF m rs
  | [], _ => .inl rfl
  | p :: l, h => by
    have h1 := List.pairwise_cons.1 h
    rw [behF, behF]
    by_cases h2 : n < p
    · rw [if_pos h2]
      split
      · exact .inr (Int.le_refl _)
      · have hm : behF m l = 0 ∨ behF m l ∈ l := by
          have : ∀ (l : List Int), behF m l = 0 ∨ behF m l ∈ l := by
            intro l
            induction l with
            | nil => exact .inl rfl
            | cons q l ih =>
              rw [behF]
              split
              · exact .inr (List.mem_cons_self ..)
              · rcases ih with e | e
                · exact .inl e
                · exact .inr (List.mem_cons_of_mem _ e)
          exact this l
        rcases hm with e | e
        · exact .inl e
        · exact .inr (Int.le_of_lt (h1.1 _ e))
    · rw [if_neg h2, if_neg (by omega)]
      exact behF_mono hnm l h1.2
structure PayF (st rv : Int) (lad : List RiseV) (bs : List BidV) (own other : Int) : Prop where
  e1 : RungE st rv lad own = 0
  le : (SellV st rv lad bs).price ≤ RungV st rv lad own
  g1 : rv ≤ (SellV st rv lad bs).price
  g2 : st ≤ (SellV st rv lad bs).price
  o1 : RungV st rv lad other ≤ RungV st rv lad own
  o2 : RungV st rv lad other ≤ (SellV st rv lad bs).price
theorem pays {st rv : Int} {lad : List RiseV} {bs : List BidV} (h : SellE st rv lad bs = 0) (hw : (SellV st rv lad bs).winner ≠ -1) :
    PayF st rv lad bs (maxB (fun b => b.who == (SellV st rv lad bs).winner) bs 0) (maxB (fun b => !(b.who == (SellV st rv lad bs).winner)) bs 0) := by
  obtain ⟨h3, h4⟩ := sellE_0 h
  have hok := lot_ok h3
  have ha := rgL_asc hok.lad hok.st.1
  have hb := (bids_ok h4).2
  have e : SellV st rv lad bs = knockF (rgL lad st) st (leastR st rv lad) (offs (rgL lad st) bs) := by unfold SellV; rw [if_pos ⟨h3, h4⟩]
  rw [e] at hw ⊢
  obtain ⟨W, s, hW, hS, hs0, hsW, hl0, hlW, hk⟩ := knock_sold offs_pos hw
  rw [hk]
  have hWm := offs_rung ha hW.mem
  have hWp := ha.pos _ hWm
  have hr := own_rung ha hW (fun b hb' => (hb b hb').2.2.1)
  have ho := other_rung ha hS hs0
  have hp := price_bd ha (start := st) (by have := hok.st; omega) hWm (rgL_start hok.lad hok.st.1) hsW
  have hv : ∀ n, RungV st rv lad n = rungF n (rgL lad st) 0 := fun n => by unfold RungV rungR; rw [if_pos h3]
  have hlr := (behF_gt (n := rv - 1) (rgL lad st)).resolve_left hl0
  have hll : rv ≤ leastR st rv lad := by unfold leastR; omega
  refine ⟨?_, ?_, ?_, ?_, ?_, ?_⟩
  · unfold RungE rungR; rw [if_pos h3, hr, if_pos (by omega)]
  · rw [hv, hr, e, hk]; simp only; omega
  · rw [e, hk]; simp only; omega
  · rw [e, hk]; simp only; omega
  · rw [hv, hv, hr]; exact Int.le_trans ho hsW
  · rw [hv, e, hk]; have := ho; simp only; omega
theorem pays_more {st rv : Int} {lad : List RiseV} {bs : List BidV} {b : BidV} (h : SellE st rv lad bs = 0) (hw : (SellV st rv lad bs).winner ≠ -1) : (SellE st rv lad (bs ++ [b]) = 0 ∧ (SellV st rv lad (bs ++ [b])).winner ≠ -1 ∧ (SellV st rv lad bs).price ≤ (SellV st rv lad (bs ++ [b])).price) ∨ SellE st rv lad (bs ++ [b]) = 61 := by
  obtain ⟨h3, h4⟩ := sellE_0 h
  have hok := lot_ok h3
  have ha := rgL_asc hok.lad hok.st.1
  by_cases h5 : bidsB (bs ++ [b]) = true
  · left
    have e : SellV st rv lad bs = knockF (rgL lad st) st (leastR st rv lad) (offs (rgL lad st) bs) := by unfold SellV; rw [if_pos ⟨h3, h4⟩]
    have e2 : SellV st rv lad (bs ++ [b]) = knockF (rgL lad st) st (leastR st rv lad) (offs (rgL lad st) (bs ++ [b])) := by unfold SellV; rw [if_pos ⟨h3, h5⟩]
    rw [e] at hw
    rw [e, e2]
    refine ⟨by unfold SellE; rw [if_pos h3, if_pos h5], ?_⟩
    exact knock_more ha (by have := hok.st; omega) (rgL_start hok.lad hok.st.1) (fun c hc => ((bids_ok h4).2 c hc).1) ((bids_ok h5).2 b (by simp)).1.1 hw
  · right
    unfold SellE
    rw [if_pos h3, if_neg h5]
theorem lotB_rv {st rv rv2 : Int} {lad : List RiseV} (h : lotB st rv lad = true) (h2 : 0 ≤ rv2 ∧ rv2 ≤ 100000) : lotB st rv2 lad = true := by
  unfold lotB at h ⊢
  simp only [Bool.and_eq_true] at h ⊢
  exact ⟨⟨⟨⟨h.1.1.1.1, btw_t.2 h2⟩, h.1.1.2⟩, h.1.2⟩, h.2⟩
theorem pays_dear {st rv rv2 : Int} {lad : List RiseV} {bs : List BidV} (h : SellE st rv lad bs = 0) (hw : (SellV st rv lad bs).winner ≠ -1) (hr : rv ≤ rv2 ∧ rv2 ≤ 100000) : SellE st rv2 lad bs = 0 ∧ (SellV st rv2 lad bs = ⟨-1, 0⟩ ∨ (SellV st rv2 lad bs).winner = (SellV st rv lad bs).winner ∧ (SellV st rv lad bs).price ≤ (SellV st rv2 lad bs).price) := by
  obtain ⟨h3, h4⟩ := sellE_0 h
  have hok := lot_ok h3
  have ha := rgL_asc hok.lad hok.st.1
  have h5 := lotB_rv h3 (rv2 := rv2) (by have := hok.rv; omega)
  have e : SellV st rv lad bs = knockF (rgL lad st) st (leastR st rv lad) (offs (rgL lad st) bs) := by unfold SellV; rw [if_pos ⟨h3, h4⟩]
  have e2 : SellV st rv2 lad bs = knockF (rgL lad st) st (leastR st rv2 lad) (offs (rgL lad st) bs) := by unfold SellV; rw [if_pos ⟨h5, h4⟩]
  rw [e] at hw
  rw [e, e2]
  refine ⟨by unfold SellE; rw [if_pos h5, if_pos h4], ?_⟩
  refine knock_dear hw ?_
  unfold leastR
  exact behF_mono (by omega) _ ha.lt
theorem sell_none {st rv : Int} {lad : List RiseV} {bs : List BidV} (h : SellE st rv lad bs = 0) (hw : (SellV st rv lad bs).winner = -1) : (SellV st rv lad bs).price = 0 := by
  obtain ⟨h3, h4⟩ := sellE_0 h
  have e : SellV st rv lad bs = knockF (rgL lad st) st (leastR st rv lad) (offs (rgL lad st) bs) := by unfold SellV; rw [if_pos ⟨h3, h4⟩]
  rw [e] at hw ⊢
  exact knock_none (fun q hq => (offs_who (fun c hc => ((bids_ok h4).2 c hc).1) hq).1) hw
end Go.Proofs.Ytehmifpofpifkaa
namespace Go.Proofs.Ytehmifpofpifkaa
open Go Go.Sx Go.RowKit Am
/-! lots that are none -/
abbrev s5 {α : Type} (a b c d e : α) (i : Nat) : α := if i = 0 then a else if i = 1 then b else if i = 2 then c else if i = 3 then d else e
theorem lt5 {i : Nat} (h : i < 5) : i = 0 ∨ i = 1 ∨ i = 2 ∨ i = 3 ∨ i = 4 := by omega
abbrev stK : Nat → Int := s5 0 0 10 10 10
abbrev rvK : Nat → Int := s5 0 30 30 30 30
abbrev laK : Nat → List RiseV := s5 [] ladX [⟨1, 5⟩, ⟨50, 20⟩] [⟨0, 5⟩, ⟨0, 20⟩] [⟨0, 5⟩, ⟨50, 0⟩]
abbrev alK (a b c d : Nat) : Nat → Option Addr := s5 none (some ⟨a, 0, none⟩) (some ⟨b, 0, none⟩) (some ⟨c, 0, none⟩) (some ⟨d, 0, none⟩)
abbrev lnK : Nat → Nat := s5 0 2 2 2 2
abbrev lotsK (a b c d : Nat) : List Value := [.int .i64 0, .int .i64 0, .slice none 0 0, .int .i64 0, .int .i64 30, .slice (some ⟨a, 0, none⟩) 2 2, .int .i64 10, .int .i64 30, .slice (some ⟨b, 0, none⟩) 2 2, .int .i64 10, .int .i64 30, .slice (some ⟨c, 0, none⟩) 2 2, .int .i64 10, .int .i64 30, .slice (some ⟨d, 0, none⟩) 2 2]
theorem tkK (a b c d : Nat) {i : Nat} (h : i < 5) : Tk 3 (i * 3) (lotsK a b c d) [.int .i64 (stK i), .int .i64 (rvK i), .slice (alK a b c d i) (laK i).length (lnK i)] := by
  rcases lt5 h with rfl | rfl | rfl | rfl | rfl
  · show Tk 3 0 _ [.int .i64 0, .int .i64 0, .slice none 0 0]; infer_instance
  · show Tk 3 3 _ [.int .i64 0, .int .i64 30, .slice (some ⟨a, 0, none⟩) 2 2]; infer_instance
  · show Tk 3 6 _ [.int .i64 10, .int .i64 30, .slice (some ⟨b, 0, none⟩) 2 2]; infer_instance
  · show Tk 3 9 _ [.int .i64 10, .int .i64 30, .slice (some ⟨c, 0, none⟩) 2 2]; infer_instance
  · show Tk 3 12 _ [.int .i64 10, .int .i64 30, .slice (some ⟨d, 0, none⟩) 2 2]; infer_instance
theorem badK {i : Nat} (h : i < 5) : lotE (stK i) (rvK i) (laK i) = 60 := by rcases lt5 h with rfl | rfl | rfl | rfl | rfl <;> kernel_rfl
/-! rungs -/
theorem kn1 : RungV 10 30 ladX 9 = 0 := by kernel_rfl
theorem kn1e : RungE 10 30 ladX 9 = 4 := by kernel_rfl
theorem kn2 : RungV 10 30 ladX 1099511627776 = 99990 := by decide +kernel
theorem kn2e : RungE 10 30 ladX 1099511627776 = 0 := by decide +kernel
theorem kn3 : NextV 10 30 ladX 47 = 0 := by kernel_rfl
theorem kn3e : NextE 10 30 ladX 47 = 7 := by kernel_rfl
theorem kn4 : NextV 10 30 ladX 99990 = 0 := by decide +kernel
theorem kn4e : NextE 10 30 ladX 99990 = 4 := by decide +kernel
theorem kn5 : NextV 10 30 ladX 0 = 0 := by kernel_rfl
theorem kn5e : NextE 10 30 ladX 0 = 7 := by kernel_rfl
theorem kn6 : NextV 10 30 ladX 45 = 50 := by kernel_rfl
theorem kn6e : NextE 10 30 ladX 45 = 0 := by kernel_rfl
/-! sales -/
abbrev bK1 : List BidV := [⟨100, 0, 5⟩]
abbrev bK2 : List BidV := [⟨0, 4, 5⟩]
abbrev bK3 : List BidV := List.replicate 33 ⟨0, 0, 0⟩
abbrev bK4 : List BidV := [⟨0, 0, 29⟩]
abbrev bK5 : List BidV := [⟨2, 0, 45⟩]
abbrev bK6 : List BidV := [⟨5, 3, 46⟩, ⟨4, 1, 45⟩, ⟨5, 0, 48⟩]
abbrev bK7 : List BidV := [⟨0, 0, 100000⟩]
abbrev bK8 : List BidV := [⟨1, 0, 45⟩, ⟨2, 0, 45⟩, ⟨1, 0, 70⟩, ⟨9, 0, 5⟩]
abbrev rK8 : List LeadV := [⟨1, 45, 0, 0, 10⟩, ⟨1, 45, 0, 45, 45⟩, ⟨1, 70, 0, 45, 50⟩, ⟨1, 70, 0, 45, 50⟩]
theorem ks1 : SellV 10 30 ladX bK1 = ⟨0, 0⟩ := by kernel_rfl
theorem ks1e : SellE 10 30 ladX bK1 = 61 := by kernel_rfl
theorem ks2 : RoomL 10 30 ladX bK2 = [] := by kernel_rfl
theorem ks2e : SellE 10 30 ladX bK2 = 61 := by kernel_rfl
theorem ks3 : SellV 10 30 ladX bK3 = ⟨0, 0⟩ := by kernel_rfl
theorem ks3e : SellE 10 30 ladX bK3 = 61 := by kernel_rfl
theorem ks4 : SellV 10 30 ladX bK4 = ⟨-1, 0⟩ := by kernel_rfl
theorem ks4e : SellE 10 30 ladX bK4 = 0 := by kernel_rfl
theorem ks5 : SellV 10 30 ladX bK5 = ⟨2, 30⟩ := by kernel_rfl
theorem ks5e : SellE 10 30 ladX bK5 = 0 := by kernel_rfl
theorem ks6 : SellV 10 30 ladX bK6 = ⟨5, 45⟩ := by kernel_rfl
theorem ks6e : SellE 10 30 ladX bK6 = 0 := by kernel_rfl
theorem ks7 : SellV 10 99991 ladX bK7 = ⟨-1, 0⟩ := by decide +kernel
theorem ks7e : SellE 10 99991 ladX bK7 = 0 := by kernel_rfl
theorem ks8 : RoomL 10 30 ladX bK8 = rK8 := by kernel_rfl
theorem ks8e : SellE 10 30 ladX bK8 = 0 := by kernel_rfl
/-! closings -/
abbrev s4 {α : Type} (a b c d : α) (i : Nat) : α := if i = 0 then a else if i = 1 then b else if i = 2 then c else d
theorem lt4 {i : Nat} (h : i < 4) : i = 0 ∨ i = 1 ∨ i = 2 ∨ i = 3 := by omega
abbrev reK : Nat → List Int := s4 [] [100001, 0] [2, 0] [2, 0]
abbrev rows2 (a b c : Nat) : List ListV := [⟨some ⟨a, 0, none⟩, 2, [10, 6]⟩, ⟨some ⟨b, 0, none⟩, 1, [8]⟩, ⟨some ⟨c, 0, none⟩, 2, [5, 0]⟩]
abbrev rows7 : List ListV := List.replicate 7 ⟨none, 0, []⟩
abbrev roK (a b c d e f : Nat) : Nat → List ListV := s4 [] (rowsX a b c) (rows2 d e f) rows7
abbrev cloK (r1 v1 r2 v2 r3 v3 : Nat) : List Value := [.slice none 0 0, .slice none 0 0, .slice (some ⟨r1, 0, none⟩) 2 2, .slice (some ⟨v1, 0, none⟩) 3 3, .slice (some ⟨r2, 0, none⟩) 2 2, .slice (some ⟨v2, 0, none⟩) 3 3, .slice (some ⟨r3, 0, none⟩) 2 2, .slice (some ⟨v3, 0, none⟩) 7 7]
abbrev arK (r1 r2 r3 : Nat) : Nat → Option Addr := s4 none (some ⟨r1, 0, none⟩) (some ⟨r2, 0, none⟩) (some ⟨r3, 0, none⟩)
abbrev crK : Nat → Nat := s4 0 2 2 2
abbrev cvK : Nat → Nat := s4 0 3 3 7
theorem tkC (r1 v1 r2 v2 r3 v3 a b c d e f : Nat) {i : Nat} (h : i < 4) : Tk 2 (i * 2) (cloK r1 v1 r2 v2 r3 v3) [.slice (arK r1 r2 r3 i) (reK i).length (crK i), .slice (arK v1 v2 v3 i) (roK a b c d e f i).length (cvK i)] := by
  rcases lt4 h with rfl | rfl | rfl | rfl
  · show Tk 2 0 _ [.slice none 0 0, .slice none 0 0]; infer_instance
  · show Tk 2 2 _ [.slice (some ⟨r1, 0, none⟩) 2 2, .slice (some ⟨v1, 0, none⟩) 3 3]; infer_instance
  · show Tk 2 4 _ [.slice (some ⟨r2, 0, none⟩) 2 2, .slice (some ⟨v2, 0, none⟩) 3 3]; infer_instance
  · show Tk 2 6 _ [.slice (some ⟨r3, 0, none⟩) 2 2, .slice (some ⟨v3, 0, none⟩) 7 7]; infer_instance
theorem badC (a b c d e f : Nat) {i : Nat} (h : i < 4) : cloE (reK i) (roK a b c d e f i) = 62 := by rcases lt4 h with rfl | rfl | rfl | rfl <;> kernel_rfl
theorem kw1 (a b c : Nat) : WorV resX (rowsX a b c) [1, -1, -1] = 8 := by kernel_rfl
theorem kw1e (a b c : Nat) : WorE resX (rowsX a b c) [1, -1, -1] = 0 := by kernel_rfl
theorem kw2 (a b c : Nat) : WorV resX (rowsX a b c) [1, 1, -1] = 0 := by kernel_rfl
theorem kw2e (a b c : Nat) : WorE resX (rowsX a b c) [1, 1, -1] = 63 := by kernel_rfl
theorem kw3 (a b c : Nat) : WorV resX (rowsX a b c) [0, 1] = 0 := by kernel_rfl
theorem kw3e (a b c : Nat) : WorE resX (rowsX a b c) [0, 1] = 63 := by kernel_rfl
theorem kf1 (a b c : Nat) : FairV resX (rowsX a b c) [0, 1, -1] [5, 0] = false := by kernel_rfl
theorem kf1e (a b c : Nat) : FairE resX (rowsX a b c) [0, 1, -1] [5, 0] = 0 := by kernel_rfl
theorem kf2 (a b c : Nat) : FairV resX (rowsX a b c) [0, 1, -1] [6, 2] = true := by kernel_rfl
theorem kf2e (a b c : Nat) : FairE resX (rowsX a b c) [0, 1, -1] [6, 2] = 0 := by kernel_rfl
theorem kf3 (a b c : Nat) : FairV resX (rowsX a b c) [0, 1, -1] [6] = false := by kernel_rfl
theorem kf3e (a b c : Nat) : FairE resX (rowsX a b c) [0, 1, -1] [6] = 63 := by kernel_rfl
theorem kf4 (a b c : Nat) : FairV resX (rowsX a b c) [-1, -1, -1] [100, 100] = false := by kernel_rfl
theorem kf4e (a b c : Nat) : FairE resX (rowsX a b c) [-1, -1, -1] [100, 100] = 0 := by kernel_rfl
theorem kp1 (a : Nat) : CloA [7, 3] [⟨some ⟨a, 0, none⟩, 2, [6, 9]⟩] = ([1], [7, 3]) := by kernel_rfl
theorem kp1e (a : Nat) : cloE [7, 3] [⟨some ⟨a, 0, none⟩, 2, [6, 9]⟩] = 0 := by kernel_rfl
theorem kr1e : ringE [256] 1 = 64 := by kernel_rfl
theorem kr1 : ringV [256] 1 = [] := by unfold ringV; rw [kr1e]; rfl
theorem kr2e : ringE [] 0 = 7 := by kernel_rfl
theorem kr2 : ringV [] 0 = [] := by unfold ringV; rw [kr2e]; rfl
theorem kr3e : ringE [1, 1, 3] 1 = 0 := by kernel_rfl
theorem kr3 : ringV [1, 1, 3] 1 = [] := by
  unfold ringV
  rw [kr3e, if_pos rfl, show natsL [1, 1, 3] = [1, 1, 3] by rfl, show Int.toNat 1 = 1 by rfl, ← ringS_eq, show outD (ringB [1, 1, 3] 1) 7 = [] by decide +kernel]
  rfl
end Go.Proofs.Ytehmifpofpifkaa
namespace Go.Proofs.Ytehmifpofpifkaa
open Go.Sx Go.RowKit
set_option maxRecDepth 20000
theorem ne41 (a0 b0 : Int) (a1 b1 : Int) (a2 b2 : Int) (a3 b3 : Int) (a4 b4 : Int) (x y : Operand) (w : World) : (do eqGuard .neq 41 x y (.agg #[.int .i64 a0, .int .i64 a1, .int .i64 a2, .int .i64 a3, .int .i64 a4]) (.agg #[.int .i64 b0, .int .i64 b1, .int .i64 b2, .int .i64 b3, .int .i64 b4]); binOp .neq 41 (.agg #[.int .i64 a0, .int .i64 a1, .int .i64 a2, .int .i64 a3, .int .i64 a4]) (.agg #[.int .i64 b0, .int .i64 b1, .int .i64 b2, .int .i64 b3, .int .i64 b4]) : Sem Value).run Try.prog w = .ok (.bool (!((a0 == b0) && (a1 == b1) && (a2 == b2) && (a3 == b3) && (a4 == b4)))) w := by
  simp [go_sem, Try.eqGuardType41, Try.stoodInHeld41, Try.underlying41, Try.underlying3]
  try ((repeat' split) <;> simp_all)
end Go.Proofs.Ytehmifpofpifkaa
namespace Go.Proofs.Ytehmifpofpifkaa
open Go.Sx Go.RowKit
set_option maxRecDepth 20000

end Go.Proofs.Ytehmifpofpifkaa
namespace Go.Proofs.Ytehmifpofpifkaa
open Go.Sx Go.RowKit
set_option maxRecDepth 20000

end Go.Proofs.Ytehmifpofpifkaa
namespace Go.Proofs.Ytehmifpofpifkaa
open Go.Sx Go.RowKit
set_option maxRecDepth 20000
theorem el32 : ElemIs Try.prog 32 53 3 24 := ⟨⟨_, (.agg #[.int .i64 0, .int .i64 0, .int .i64 0]), Try.underlying32, Try.type53, by kernel_rfl, by kernel_rfl, by kernel_rfl, by kernel_rfl, by decide⟩⟩
theorem eq34 (a0 b0 : Int) (a1 b1 : Int) (x y : Operand) (w : World) : (do eqGuard .eql 34 x y (.agg #[.int .i64 a0, .int .i64 a1]) (.agg #[.int .i64 b0, .int .i64 b1]); binOp .eql 34 (.agg #[.int .i64 a0, .int .i64 a1]) (.agg #[.int .i64 b0, .int .i64 b1]) : Sem Value).run Try.prog w = .ok (.bool ((a0 == b0) && (a1 == b1))) w := by
  simp [go_sem, Try.eqGuardType34, Try.stoodInHeld34, Try.underlying34, Try.underlying3]
  try ((repeat' split) <;> simp_all)
end Go.Proofs.Ytehmifpofpifkaa
namespace Go.Proofs.Ytehmifpofpifkaa
open Go.Sx Go.RowKit
set_option maxRecDepth 20000
theorem fa34_0 : FieldIs Try.prog 34 0 0 1 false := ⟨⟨_, _, Try.underlying34, rfl, rfl, Try.sizeOf3, Try.isAgg3, by decide⟩⟩
theorem fa34_1 : FieldIs Try.prog 34 1 1 1 false := ⟨⟨_, _, Try.underlying34, rfl, rfl, Try.sizeOf3, Try.isAgg3, by decide⟩⟩
theorem fa55_0 : FieldIs Try.prog 55 0 0 3 true := ⟨⟨_, _, Try.underlying55, rfl, rfl, Try.sizeOf53, Try.isAgg53, by decide⟩⟩
theorem fa55_1 : FieldIs Try.prog 55 1 3 1 false := ⟨⟨_, _, Try.underlying55, rfl, rfl, Try.sizeOf3, Try.isAgg3, by decide⟩⟩
end Go.Proofs.Ytehmifpofpifkaa
namespace Go.Proofs.Ytehmifpofpifkaa
open Go.Sx Go.RowKit
set_option maxRecDepth 20000

end Go.Proofs.Ytehmifpofpifkaa
namespace Go.Proofs.Ytehmifpofpifkaa
open Go.Sx Go.RowKit
set_option maxRecDepth 20000

end Go.Proofs.Ytehmifpofpifkaa
namespace Go.Proofs.Ytehmifpofpifkaa
open Go.Sx Go.RowKit Am
set_option maxRecDepth 20000
theorem takesOf {F : Nat → Prop} {w0 w : World} {O S R : List Fact} (_hp : Hp F w0 O S w) (Os : List Fact) [h : Takes O Os R] : Takes O Os R := h

theorem k_lotO  (w : World)  : Calls Try.prog 45 #[] w (fun e w' => ∃ x : Nat, e = .returned (.agg #[.int .i64 10, .int .i64 30, .slice (some ⟨x, 0, none⟩) 2 2]) ∧ Grow w w' ∧ (∀ g ∈ [ownB x (cellsB 81 [.int .i64 0, .int .i64 5, .int .i64 50, .int .i64 20])], g.P w' ∧ ∀ b, g.fp b → w.heap.size ≤ b ∧ b < w'.heap.size) ∧ ([ownB x (cellsB 81 [.int .i64 0, .int .i64 5, .int .i64 50, .int .i64 20])] : List Fact).Pairwise (fun f g => ∀ b, f.fp b → ¬ g.fp b) ∧ (∀ g ∈ ([] : List Fact), g.P w' ∧ ∀ b, g.fp b → w.heap.size ≤ b ∧ b < w'.heap.size ∧ ∀ o ∈ [ownB x (cellsB 81 [.int .i64 0, .int .i64 5, .int .i64 50, .int .i64 20])], ¬ o.fp b)) := by
  refine enter_pure (args := []) [] Try.func45 rfl (by rw [Try.ntmps45]; simp) (by simp) ?_
  refine cj_seq (cj_region ?_)
  refine oj_alloc Try.zeroValue24 rfl rfl (fun b0 => ?_)
  refine oj_nil ?_
  refine ej_th (cj_seq (cj_region ?_))
  refine oj_step (y_build (cs := [.int .i64 0, .int .i64 5]) st81 rfl (by kernel_rfl)) rfl rfl rfl ?_
  refine oj_step (y_build (cs := [.int .i64 50, .int .i64 20]) st81 rfl (by kernel_rfl)) rfl rfl rfl ?_
  refine oj_buildSlice (cs := [.int .i64 0, .int .i64 5, .int .i64 50, .int .i64 20]) [.int .i64 0, .int .i64 0, .int .i64 0, .int .i64 0] Try.underlying22 Try.sizeOf81 Try.zeroValue81 rfl rfl (by kernel_rfl) (by kernel_rfl) rfl (fun b3 => ?_)
  refine oj_step (y_build (cs := [.int .i64 10, .int .i64 30, .slice (some ⟨b3, 0, none⟩) 2 2]) st24 rfl (by kernel_rfl)) rfl rfl rfl ?_
  refine oj_store rfl rfl rfl rfl Try.sizeOf24 rfl ?_
  refine oj_nil ?_
  refine ej_th (cj_ret ?_)
  exact ej_retC1 rfl Try.results45 rfl (y_loadN Try.isAgg24 Try.sizeOf24 rfl) (fun w' hp => ⟨b3, rfl, hp.below, fun g hg => by
    rw [List.mem_singleton.1 hg]
    exact ⟨hp.own1, fun b hb => ⟨Nat.le_of_not_lt ((hp.own (ownB b3 (cellsB 81 [.int .i64 0, .int .i64 5, .int .i64 50, .int .i64 20])) (HasB.mem)).2 b hb).2, ((hp.own (ownB b3 (cellsB 81 [.int .i64 0, .int .i64 5, .int .i64 50, .int .i64 20])) (HasB.mem)).2 b hb).1⟩⟩, List.pairwise_singleton .., fun g hg => by cases hg⟩)

theorem k_closingO  (w : World)  : Calls Try.prog 46 #[] w (fun e w' => ∃ z : Nat × Nat × Nat × Nat × Nat, e = .returned (.agg #[.slice (some ⟨z.1, 0, none⟩) 2 2, .slice (some ⟨z.2.1, 0, none⟩) 3 3]) ∧ Grow w w' ∧ (∀ g ∈ [ownB z.1 (cellsB 3 [.int .i64 2, .int .i64 0]), ownB z.2.1 (cellsB 43 [.slice (some ⟨z.2.2.1, 0, none⟩) 2 2, .slice (some ⟨z.2.2.2.1, 0, none⟩) 2 2, .slice (some ⟨z.2.2.2.2, 0, none⟩) 2 2])], g.P w' ∧ ∀ b, g.fp b → w.heap.size ≤ b ∧ b < w'.heap.size) ∧ ([ownB z.1 (cellsB 3 [.int .i64 2, .int .i64 0]), ownB z.2.1 (cellsB 43 [.slice (some ⟨z.2.2.1, 0, none⟩) 2 2, .slice (some ⟨z.2.2.2.1, 0, none⟩) 2 2, .slice (some ⟨z.2.2.2.2, 0, none⟩) 2 2])] : List Fact).Pairwise (fun f g => ∀ b, f.fp b → ¬ g.fp b) ∧ (∀ g ∈ [litS z.2.2.1 1 enInt [10, 6], litS z.2.2.2.1 1 enInt [8, 7], litS z.2.2.2.2 1 enInt [5, 0]], g.P w' ∧ ∀ b, g.fp b → w.heap.size ≤ b ∧ b < w'.heap.size ∧ ∀ o ∈ [ownB z.1 (cellsB 3 [.int .i64 2, .int .i64 0]), ownB z.2.1 (cellsB 43 [.slice (some ⟨z.2.2.1, 0, none⟩) 2 2, .slice (some ⟨z.2.2.2.1, 0, none⟩) 2 2, .slice (some ⟨z.2.2.2.2, 0, none⟩) 2 2])], ¬ o.fp b)) := by
  refine enter_pure (args := []) [] Try.func46 rfl (by rw [Try.ntmps46]; simp) (by simp) ?_
  refine cj_seq (cj_region ?_)
  refine oj_alloc Try.zeroValue60 rfl rfl (fun b0 => ?_)
  refine oj_nil ?_
  refine ej_th (cj_seq (cj_region ?_))
  refine oj_buildSlice (cs := [.int .i64 2, .int .i64 0]) [.int .i64 0, .int .i64 0] Try.underlying43 Try.sizeOf3 Try.zeroValue3 rfl rfl (by kernel_rfl) (by kernel_rfl) rfl (fun b1 => ?_)
  refine oj_buildSlice (cs := [.int .i64 10, .int .i64 6]) [.int .i64 0, .int .i64 0] Try.underlying43 Try.sizeOf3 Try.zeroValue3 rfl rfl (by kernel_rfl) (by kernel_rfl) rfl (fun b2 => ?_)
  refine oj_buildSlice (cs := [.int .i64 8, .int .i64 7]) [.int .i64 0, .int .i64 0] Try.underlying43 Try.sizeOf3 Try.zeroValue3 rfl rfl (by kernel_rfl) (by kernel_rfl) rfl (fun b3 => ?_)
  refine oj_buildSlice (cs := [.int .i64 5, .int .i64 0]) [.int .i64 0, .int .i64 0] Try.underlying43 Try.sizeOf3 Try.zeroValue3 rfl rfl (by kernel_rfl) (by kernel_rfl) rfl (fun b4 => ?_)
  refine oj_buildSlice (cs := [.slice (some ⟨b2, 0, none⟩) 2 2, .slice (some ⟨b3, 0, none⟩) 2 2, .slice (some ⟨b4, 0, none⟩) 2 2]) [.slice none 0 0, .slice none 0 0, .slice none 0 0] Try.underlying58 Try.sizeOf43 Try.zeroValue43 rfl rfl (by kernel_rfl) (by kernel_rfl) rfl (fun b5 => ?_)
  refine oj_step (y_build (cs := [.slice (some ⟨b1, 0, none⟩) 2 2, .slice (some ⟨b5, 0, none⟩) 3 3]) st60 rfl (by kernel_rfl)) rfl rfl rfl ?_
  refine oj_store rfl rfl rfl rfl Try.sizeOf60 rfl ?_
  refine oj_nil ?_
  refine ej_th (cj_ret ?_)
  exact ej_retC1 rfl Try.results46 rfl (y_loadN Try.isAgg60 Try.sizeOf60 rfl) (fun w' hp => by
    have hT := takesOf hp [ownB b1 (cellsB 3 [.int .i64 2, .int .i64 0]), ownB b5 (cellsB 43 [.slice (some ⟨b2, 0, none⟩) 2 2, .slice (some ⟨b3, 0, none⟩) 2 2, .slice (some ⟨b4, 0, none⟩) 2 2])]
    obtain ⟨q1, q2, _⟩ := hp.ownL hT
    have q4 := hp.ownR hT
    refine ⟨(b1, b5, b2, b3, b4), rfl, hp.below, fun g hg => ⟨(q1 g hg).1, fun b hb => ⟨?_, (q1 g hg).2 b hb⟩⟩, q2, fun g hg => ?_⟩
    · exact Nat.le_of_not_lt ((hp.permO hT.perm).own g (List.mem_append_left _ hg) |>.2 b hb).2
    · simp only [List.mem_cons, List.mem_nil_iff, or_false] at hg
      rcases hg with rfl | rfl | rfl
      · have h9 := hp.lit (b := b2) (sz := 1) (enc := enInt) [10, 6] (fun _ => rfl) rfl (by unfold maxLen; decide)
        exact ⟨h9.1, fun b hb => ⟨(h9.2 b hb).1, (h9.2 b hb).2.1, fun o ho hob => lit_apart hp hT (b := b2) ho ((show b = b2 from hb) ▸ hob)⟩⟩
      · have h9 := hp.lit (b := b3) (sz := 1) (enc := enInt) [8, 7] (fun _ => rfl) rfl (by unfold maxLen; decide)
        exact ⟨h9.1, fun b hb => ⟨(h9.2 b hb).1, (h9.2 b hb).2.1, fun o ho hob => lit_apart hp hT (b := b3) ho ((show b = b3 from hb) ▸ hob)⟩⟩
      · have h9 := hp.lit (b := b4) (sz := 1) (enc := enInt) [5, 0] (fun _ => rfl) rfl (by unfold maxLen; decide)
        exact ⟨h9.1, fun b hb => ⟨(h9.2 b hb).1, (h9.2 b hb).2.1, fun o ho hob => lit_apart hp hT (b := b4) ho ((show b = b4 from hb) ▸ hob)⟩⟩)

theorem e_r1 (x : Nat) (w : World) (hl : Rd w 2 encRi (some ⟨x, 0, none⟩) ladX) : Calls Try.prog 15 #[.agg #[.int .i64 10, .int .i64 30, .slice (some ⟨x, 0, none⟩) 2 2], .int .i64 9] w (fun e w' => e = .returned (.tuple #[.int .i64 0, .int .i64 4]) ∧ Grow w w') := by
  have h := k_Rung 10 30 ladX (some ⟨x, 0, none⟩) 2 9 w hl
  rw [kn1, kn1e] at h
  exact h
theorem e_r2 (x : Nat) (w : World) (hl : Rd w 2 encRi (some ⟨x, 0, none⟩) ladX) : Calls Try.prog 15 #[.agg #[.int .i64 10, .int .i64 30, .slice (some ⟨x, 0, none⟩) 2 2], .int .i64 1099511627776] w (fun e w' => e = .returned (.tuple #[.int .i64 99990, .int .i64 0]) ∧ Grow w w') := by
  have h := k_Rung 10 30 ladX (some ⟨x, 0, none⟩) 2 1099511627776 w hl
  rw [kn2, kn2e] at h
  exact h
theorem e_n3 (x : Nat) (w : World) (hl : Rd w 2 encRi (some ⟨x, 0, none⟩) ladX) : Calls Try.prog 19 #[.agg #[.int .i64 10, .int .i64 30, .slice (some ⟨x, 0, none⟩) 2 2], .int .i64 47] w (fun e w' => e = .returned (.tuple #[.int .i64 0, .int .i64 7]) ∧ Grow w w') := by
  have h := k_Next 10 30 ladX (some ⟨x, 0, none⟩) 2 47 w hl
  rw [kn3, kn3e] at h
  exact h
theorem e_n4 (x : Nat) (w : World) (hl : Rd w 2 encRi (some ⟨x, 0, none⟩) ladX) : Calls Try.prog 19 #[.agg #[.int .i64 10, .int .i64 30, .slice (some ⟨x, 0, none⟩) 2 2], .int .i64 99990] w (fun e w' => e = .returned (.tuple #[.int .i64 0, .int .i64 4]) ∧ Grow w w') := by
  have h := k_Next 10 30 ladX (some ⟨x, 0, none⟩) 2 99990 w hl
  rw [kn4, kn4e] at h
  exact h
theorem e_n5 (x : Nat) (w : World) (hl : Rd w 2 encRi (some ⟨x, 0, none⟩) ladX) : Calls Try.prog 19 #[.agg #[.int .i64 10, .int .i64 30, .slice (some ⟨x, 0, none⟩) 2 2], .int .i64 0] w (fun e w' => e = .returned (.tuple #[.int .i64 0, .int .i64 7]) ∧ Grow w w') := by
  have h := k_Next 10 30 ladX (some ⟨x, 0, none⟩) 2 0 w hl
  rw [kn5, kn5e] at h
  exact h
theorem e_n6 (x : Nat) (w : World) (hl : Rd w 2 encRi (some ⟨x, 0, none⟩) ladX) : Calls Try.prog 19 #[.agg #[.int .i64 10, .int .i64 30, .slice (some ⟨x, 0, none⟩) 2 2], .int .i64 45] w (fun e w' => e = .returned (.tuple #[.int .i64 50, .int .i64 0]) ∧ Grow w w') := by
  have h := k_Next 10 30 ladX (some ⟨x, 0, none⟩) 2 45 w hl
  rw [kn6, kn6e] at h
  exact h
theorem e_s1 (x : Nat) (w : World) (hl : Rd w 2 encRi (some ⟨x, 0, none⟩) ladX) (y : Nat) (hb : Rd w 3 encBi (some ⟨y, 0, none⟩) bK1) : Calls Try.prog 22 #[.agg #[.int .i64 10, .int .i64 30, .slice (some ⟨x, 0, none⟩) 2 2], .slice (some ⟨y, 0, none⟩) 1 1] w (fun e w' => e = .returned (.tuple #[.agg #[.int .i64 (0), .int .i64 0], .int .i64 61]) ∧ Grow w w') := by
  have h := k_Sell 10 30 ladX (some ⟨x, 0, none⟩) 2 bK1 (some ⟨y, 0, none⟩) 1 w hl hb
  rw [ks1, ks1e] at h
  exact h
theorem e_s2 (x : Nat) (w : World) (hl : Rd w 2 encRi (some ⟨x, 0, none⟩) ladX) (y : Nat) (hb : Rd w 3 encBi (some ⟨y, 0, none⟩) bK2) : Calls Try.prog 24 #[.agg #[.int .i64 10, .int .i64 30, .slice (some ⟨x, 0, none⟩) 2 2], .slice (some ⟨y, 0, none⟩) 1 1] w (fun e w' => ∃ A c, e = .returned (.tuple #[.slice A (([] : List LeadV)).length c, .int .i64 61]) ∧ Grow w w' ∧ Res w w' 5 encLe A (([] : List LeadV))) := by
  have h := k_Room 10 30 ladX (some ⟨x, 0, none⟩) 2 bK2 (some ⟨y, 0, none⟩) 1 w hl hb
  rw [ks2, ks2e] at h
  exact h
theorem e_s3 (x : Nat) (w : World) (hl : Rd w 2 encRi (some ⟨x, 0, none⟩) ladX) (y : Nat) (hb : Rd w 3 encBi (some ⟨y, 0, none⟩) bK3) : Calls Try.prog 22 #[.agg #[.int .i64 10, .int .i64 30, .slice (some ⟨x, 0, none⟩) 2 2], .slice (some ⟨y, 0, none⟩) 33 33] w (fun e w' => e = .returned (.tuple #[.agg #[.int .i64 (0), .int .i64 0], .int .i64 61]) ∧ Grow w w') := by
  have h := k_Sell 10 30 ladX (some ⟨x, 0, none⟩) 2 bK3 (some ⟨y, 0, none⟩) 33 w hl hb
  rw [ks3, ks3e] at h
  exact h
theorem e_s4 (x : Nat) (w : World) (hl : Rd w 2 encRi (some ⟨x, 0, none⟩) ladX) (y : Nat) (hb : Rd w 3 encBi (some ⟨y, 0, none⟩) bK4) : Calls Try.prog 22 #[.agg #[.int .i64 10, .int .i64 30, .slice (some ⟨x, 0, none⟩) 2 2], .slice (some ⟨y, 0, none⟩) 1 1] w (fun e w' => e = .returned (.tuple #[.agg #[.int .i64 (-1), .int .i64 0], .int .i64 0]) ∧ Grow w w') := by
  have h := k_Sell 10 30 ladX (some ⟨x, 0, none⟩) 2 bK4 (some ⟨y, 0, none⟩) 1 w hl hb
  rw [ks4, ks4e] at h
  exact h
theorem e_s5 (x : Nat) (w : World) (hl : Rd w 2 encRi (some ⟨x, 0, none⟩) ladX) (y : Nat) (hb : Rd w 3 encBi (some ⟨y, 0, none⟩) bK5) : Calls Try.prog 22 #[.agg #[.int .i64 10, .int .i64 30, .slice (some ⟨x, 0, none⟩) 2 2], .slice (some ⟨y, 0, none⟩) 1 1] w (fun e w' => e = .returned (.tuple #[.agg #[.int .i64 (2), .int .i64 30], .int .i64 0]) ∧ Grow w w') := by
  have h := k_Sell 10 30 ladX (some ⟨x, 0, none⟩) 2 bK5 (some ⟨y, 0, none⟩) 1 w hl hb
  rw [ks5, ks5e] at h
  exact h
theorem e_s6 (x : Nat) (w : World) (hl : Rd w 2 encRi (some ⟨x, 0, none⟩) ladX) (y : Nat) (hb : Rd w 3 encBi (some ⟨y, 0, none⟩) bK6) : Calls Try.prog 22 #[.agg #[.int .i64 10, .int .i64 30, .slice (some ⟨x, 0, none⟩) 2 2], .slice (some ⟨y, 0, none⟩) 3 3] w (fun e w' => e = .returned (.tuple #[.agg #[.int .i64 (5), .int .i64 45], .int .i64 0]) ∧ Grow w w') := by
  have h := k_Sell 10 30 ladX (some ⟨x, 0, none⟩) 2 bK6 (some ⟨y, 0, none⟩) 3 w hl hb
  rw [ks6, ks6e] at h
  exact h
theorem e_s7 (x : Nat) (w : World) (hl : Rd w 2 encRi (some ⟨x, 0, none⟩) ladX) (y : Nat) (hb : Rd w 3 encBi (some ⟨y, 0, none⟩) bK7) : Calls Try.prog 22 #[.agg #[.int .i64 10, .int .i64 99991, .slice (some ⟨x, 0, none⟩) 2 2], .slice (some ⟨y, 0, none⟩) 1 1] w (fun e w' => e = .returned (.tuple #[.agg #[.int .i64 (-1), .int .i64 0], .int .i64 0]) ∧ Grow w w') := by
  have h := k_Sell 10 99991 ladX (some ⟨x, 0, none⟩) 2 bK7 (some ⟨y, 0, none⟩) 1 w hl hb
  rw [ks7, ks7e] at h
  exact h
theorem e_s8 (x : Nat) (w : World) (hl : Rd w 2 encRi (some ⟨x, 0, none⟩) ladX) (y : Nat) (hb : Rd w 3 encBi (some ⟨y, 0, none⟩) bK8) : Calls Try.prog 24 #[.agg #[.int .i64 10, .int .i64 30, .slice (some ⟨x, 0, none⟩) 2 2], .slice (some ⟨y, 0, none⟩) 4 4] w (fun e w' => ∃ A c, e = .returned (.tuple #[.slice A (rK8).length c, .int .i64 0]) ∧ Grow w w' ∧ Res w w' 5 encLe A (rK8)) := by
  have h := k_Room 10 30 ladX (some ⟨x, 0, none⟩) 2 bK8 (some ⟨y, 0, none⟩) 4 w hl hb
  rw [ks8, ks8e] at h
  exact h
theorem e_w1 (r v a b c : Nat) (w : World) (hr : Rd w 1 enInt (some ⟨r, 0, none⟩) resX) (hv : Rd w 1 encLs (some ⟨v, 0, none⟩) (rowsX a b c)) (hg : ∀ q ∈ rowsX a b c, GoodL w q) (t : Nat) (ht : Rd w 1 enInt (some ⟨t, 0, none⟩) [1, -1, -1]) : Calls Try.prog 38 #[.agg #[.slice (some ⟨r, 0, none⟩) 2 2, .slice (some ⟨v, 0, none⟩) 3 3], .slice (some ⟨t, 0, none⟩) 3 3] w (fun e w' => e = .returned (.tuple #[.int .i64 8, .int .i64 0]) ∧ Grow w w') := by
  have h := k_Worth resX (some ⟨r, 0, none⟩) 2 (rowsX a b c) (some ⟨v, 0, none⟩) 3 [1, -1, -1] (some ⟨t, 0, none⟩) 3 w hr hv hg ht
  rw [kw1, kw1e] at h
  exact h
theorem e_w2 (r v a b c : Nat) (w : World) (hr : Rd w 1 enInt (some ⟨r, 0, none⟩) resX) (hv : Rd w 1 encLs (some ⟨v, 0, none⟩) (rowsX a b c)) (hg : ∀ q ∈ rowsX a b c, GoodL w q) (t : Nat) (ht : Rd w 1 enInt (some ⟨t, 0, none⟩) [1, 1, -1]) : Calls Try.prog 38 #[.agg #[.slice (some ⟨r, 0, none⟩) 2 2, .slice (some ⟨v, 0, none⟩) 3 3], .slice (some ⟨t, 0, none⟩) 3 3] w (fun e w' => e = .returned (.tuple #[.int .i64 0, .int .i64 63]) ∧ Grow w w') := by
  have h := k_Worth resX (some ⟨r, 0, none⟩) 2 (rowsX a b c) (some ⟨v, 0, none⟩) 3 [1, 1, -1] (some ⟨t, 0, none⟩) 3 w hr hv hg ht
  rw [kw2, kw2e] at h
  exact h
theorem e_w3 (r v a b c : Nat) (w : World) (hr : Rd w 1 enInt (some ⟨r, 0, none⟩) resX) (hv : Rd w 1 encLs (some ⟨v, 0, none⟩) (rowsX a b c)) (hg : ∀ q ∈ rowsX a b c, GoodL w q) (t : Nat) (ht : Rd w 1 enInt (some ⟨t, 0, none⟩) [0, 1]) : Calls Try.prog 38 #[.agg #[.slice (some ⟨r, 0, none⟩) 2 2, .slice (some ⟨v, 0, none⟩) 3 3], .slice (some ⟨t, 0, none⟩) 2 2] w (fun e w' => e = .returned (.tuple #[.int .i64 0, .int .i64 63]) ∧ Grow w w') := by
  have h := k_Worth resX (some ⟨r, 0, none⟩) 2 (rowsX a b c) (some ⟨v, 0, none⟩) 3 [0, 1] (some ⟨t, 0, none⟩) 2 w hr hv hg ht
  rw [kw3, kw3e] at h
  exact h
theorem e_f1 (r v a b c : Nat) (w : World) (hr : Rd w 1 enInt (some ⟨r, 0, none⟩) resX) (hv : Rd w 1 encLs (some ⟨v, 0, none⟩) (rowsX a b c)) (hg : ∀ q ∈ rowsX a b c, GoodL w q) (t p : Nat) (ht : Rd w 1 enInt (some ⟨t, 0, none⟩) [0, 1, -1]) (hp : Rd w 1 enInt (some ⟨p, 0, none⟩) [5, 0]) : Calls Try.prog 44 #[.agg #[.slice (some ⟨r, 0, none⟩) 2 2, .slice (some ⟨v, 0, none⟩) 3 3], .agg #[.slice (some ⟨t, 0, none⟩) 3 3, .slice (some ⟨p, 0, none⟩) 2 2]] w (fun e w' => e = .returned (.tuple #[.bool false, .int .i64 0]) ∧ Grow w w') := by
  have h := k_Fair resX (some ⟨r, 0, none⟩) 2 (rowsX a b c) (some ⟨v, 0, none⟩) 3 [0, 1, -1] (some ⟨t, 0, none⟩) 3 [5, 0] (some ⟨p, 0, none⟩) 2 w hr hv hg ht hp
  rw [kf1, kf1e] at h
  exact h
theorem e_f2 (r v a b c : Nat) (w : World) (hr : Rd w 1 enInt (some ⟨r, 0, none⟩) resX) (hv : Rd w 1 encLs (some ⟨v, 0, none⟩) (rowsX a b c)) (hg : ∀ q ∈ rowsX a b c, GoodL w q) (t p : Nat) (ht : Rd w 1 enInt (some ⟨t, 0, none⟩) [0, 1, -1]) (hp : Rd w 1 enInt (some ⟨p, 0, none⟩) [6, 2]) : Calls Try.prog 44 #[.agg #[.slice (some ⟨r, 0, none⟩) 2 2, .slice (some ⟨v, 0, none⟩) 3 3], .agg #[.slice (some ⟨t, 0, none⟩) 3 3, .slice (some ⟨p, 0, none⟩) 2 2]] w (fun e w' => e = .returned (.tuple #[.bool true, .int .i64 0]) ∧ Grow w w') := by
  have h := k_Fair resX (some ⟨r, 0, none⟩) 2 (rowsX a b c) (some ⟨v, 0, none⟩) 3 [0, 1, -1] (some ⟨t, 0, none⟩) 3 [6, 2] (some ⟨p, 0, none⟩) 2 w hr hv hg ht hp
  rw [kf2, kf2e] at h
  exact h
theorem e_f3 (r v a b c : Nat) (w : World) (hr : Rd w 1 enInt (some ⟨r, 0, none⟩) resX) (hv : Rd w 1 encLs (some ⟨v, 0, none⟩) (rowsX a b c)) (hg : ∀ q ∈ rowsX a b c, GoodL w q) (t p : Nat) (ht : Rd w 1 enInt (some ⟨t, 0, none⟩) [0, 1, -1]) (hp : Rd w 1 enInt (some ⟨p, 0, none⟩) [6]) : Calls Try.prog 44 #[.agg #[.slice (some ⟨r, 0, none⟩) 2 2, .slice (some ⟨v, 0, none⟩) 3 3], .agg #[.slice (some ⟨t, 0, none⟩) 3 3, .slice (some ⟨p, 0, none⟩) 1 1]] w (fun e w' => e = .returned (.tuple #[.bool false, .int .i64 63]) ∧ Grow w w') := by
  have h := k_Fair resX (some ⟨r, 0, none⟩) 2 (rowsX a b c) (some ⟨v, 0, none⟩) 3 [0, 1, -1] (some ⟨t, 0, none⟩) 3 [6] (some ⟨p, 0, none⟩) 1 w hr hv hg ht hp
  rw [kf3, kf3e] at h
  exact h
theorem e_f4 (r v a b c : Nat) (w : World) (hr : Rd w 1 enInt (some ⟨r, 0, none⟩) resX) (hv : Rd w 1 encLs (some ⟨v, 0, none⟩) (rowsX a b c)) (hg : ∀ q ∈ rowsX a b c, GoodL w q) (t p : Nat) (ht : Rd w 1 enInt (some ⟨t, 0, none⟩) [-1, -1, -1]) (hp : Rd w 1 enInt (some ⟨p, 0, none⟩) [100, 100]) : Calls Try.prog 44 #[.agg #[.slice (some ⟨r, 0, none⟩) 2 2, .slice (some ⟨v, 0, none⟩) 3 3], .agg #[.slice (some ⟨t, 0, none⟩) 3 3, .slice (some ⟨p, 0, none⟩) 2 2]] w (fun e w' => e = .returned (.tuple #[.bool false, .int .i64 0]) ∧ Grow w w') := by
  have h := k_Fair resX (some ⟨r, 0, none⟩) 2 (rowsX a b c) (some ⟨v, 0, none⟩) 3 [-1, -1, -1] (some ⟨t, 0, none⟩) 3 [100, 100] (some ⟨p, 0, none⟩) 2 w hr hv hg ht hp
  rw [kf4, kf4e] at h
  exact h
theorem e_p1 (r v a : Nat) (w : World) (hr : Rd w 1 enInt (some ⟨r, 0, none⟩) [7, 3]) (hv : Rd w 1 encLs (some ⟨v, 0, none⟩) [⟨some ⟨a, 0, none⟩, 2, [6, 9]⟩]) (hg : ∀ q ∈ ([⟨some ⟨a, 0, none⟩, 2, [6, 9]⟩] : List ListV), GoodL w q) : Calls Try.prog 34 #[.agg #[.slice (some ⟨r, 0, none⟩) 2 2, .slice (some ⟨v, 0, none⟩) 1 1]] w (fun e w' => ∃ A c, e = .returned (.tuple #[.slice A (([7, 3] : List Int)).length c, .int .i64 0]) ∧ Grow w w' ∧ Res w w' 1 enInt A (([7, 3] : List Int))) := by
  have h := k_Prices [7, 3] (some ⟨r, 0, none⟩) 2 [⟨some ⟨a, 0, none⟩, 2, [6, 9]⟩] (some ⟨v, 0, none⟩) 1 w hr hv hg
  rw [kp1, kp1e] at h
  exact h
theorem e_g1 (x : Nat) (w : World) (hl : Rd w 1 enInt (some ⟨x, 0, none⟩) [256]) : Calls Try.prog 26 #[.slice (some ⟨x, 0, none⟩) 1 1, .int .i64 1] w (fun e w' => ∃ A c, e = .returned (.tuple #[.slice A (([] : List Int)).length c, .int .i64 64]) ∧ Grow w w' ∧ Res w w' 1 enInt A (([] : List Int))) := by
  have h := k_Rings [256] (some ⟨x, 0, none⟩) 1 1 w hl
  rw [kr1, kr1e] at h
  exact h
theorem e_g2 (w : World) (hl : Rd w 1 enInt none []) : Calls Try.prog 26 #[.slice none 0 0, .int .i64 0] w (fun e w' => ∃ A c, e = .returned (.tuple #[.slice A (([] : List Int)).length c, .int .i64 7]) ∧ Grow w w' ∧ Res w w' 1 enInt A (([] : List Int))) := by
  have h := k_Rings [] none 0 0 w hl
  rw [kr2, kr2e] at h
  exact h
theorem e_g3 (x : Nat) (w : World) (hl : Rd w 1 enInt (some ⟨x, 0, none⟩) [1, 1, 3]) : Calls Try.prog 26 #[.slice (some ⟨x, 0, none⟩) 3 3, .int .i64 1] w (fun e w' => ∃ A c, e = .returned (.tuple #[.slice A (([] : List Int)).length c, .int .i64 0]) ∧ Grow w w' ∧ Res w w' 1 enInt A (([] : List Int))) := by
  have h := k_Rings [1, 1, 3] (some ⟨x, 0, none⟩) 3 1 w hl
  rw [kr3, kr3e] at h
  exact h

set_option maxHeartbeats 16000000 in
theorem k_AuctionKnown  (w : World)  : Calls Try.prog 14 #[] w (fun e w' => e = .returned (.bool true) ∧ Grow w w') := by
  refine enter_pure (args := []) [] Try.func14 rfl (by rw [Try.ntmps14]; simp) (by simp) ?_
  refine cj_seq ?_
  refine cj_regionG (gj_step (y_assign rfl) rfl rfl rfl (gj_nil ?_))
  refine ej_th (cj_seq (cj_region ?_))
  refine oj_step (y_build st24 rfl rfl) rfl rfl rfl ?_
  refine oj_call (X := Nat) (fun z => .agg #[.int .i64 10, .int .i64 30, .slice (some ⟨z, 0, none⟩) 2 2]) (fun z => [ownB z (cellsB 81 [.int .i64 0, .int .i64 5, .int .i64 50, .int .i64 20])]) (fun _ => ([] : List Fact)) Try.call45 rfl (fun w hp => k_lotO w) rfl (fun l31 => ?_)
  dsimp only [List.nil_append, List.cons_append]
  refine oj_call (X := Nat) (fun z => .agg #[.int .i64 10, .int .i64 30, .slice (some ⟨z, 0, none⟩) 2 2]) (fun z => [ownB z (cellsB 81 [.int .i64 0, .int .i64 5, .int .i64 50, .int .i64 20])]) (fun _ => ([] : List Fact)) Try.call45 rfl (fun w hp => k_lotO w) rfl (fun l32 => ?_)
  dsimp only [List.nil_append, List.cons_append]
  refine oj_call (X := Nat) (fun z => .agg #[.int .i64 10, .int .i64 30, .slice (some ⟨z, 0, none⟩) 2 2]) (fun z => [ownB z (cellsB 81 [.int .i64 0, .int .i64 5, .int .i64 50, .int .i64 20])]) (fun _ => ([] : List Fact)) Try.call45 rfl (fun w hp => k_lotO w) rfl (fun l33 => ?_)
  dsimp only [List.nil_append, List.cons_append]
  refine oj_call (X := Nat) (fun z => .agg #[.int .i64 10, .int .i64 30, .slice (some ⟨z, 0, none⟩) 2 2]) (fun z => [ownB z (cellsB 81 [.int .i64 0, .int .i64 5, .int .i64 50, .int .i64 20])]) (fun _ => ([] : List Fact)) Try.call45 rfl (fun w hp => k_lotO w) rfl (fun l34 => ?_)
  dsimp only [List.nil_append, List.cons_append]
  refine oj_buildSlice (cs := [.int .i64 0, .int .i64 0, .slice none 0 0, .int .i64 10, .int .i64 30, .slice (some ⟨l31, 0, none⟩) 2 2, .int .i64 10, .int .i64 30, .slice (some ⟨l32, 0, none⟩) 2 2, .int .i64 10, .int .i64 30, .slice (some ⟨l33, 0, none⟩) 2 2, .int .i64 10, .int .i64 30, .slice (some ⟨l34, 0, none⟩) 2 2]) [.int .i64 0, .int .i64 0, .slice none 0 0, .int .i64 0, .int .i64 0, .slice none 0 0, .int .i64 0, .int .i64 0, .slice none 0 0, .int .i64 0, .int .i64 0, .slice none 0 0, .int .i64 0, .int .i64 0, .slice none 0 0] Try.underlying79 Try.sizeOf24 Try.zeroValue24 rfl rfl (by kernel_rfl) (by kernel_rfl) rfl (fun b35 => ?_)
  refine oj_step (y_assign rfl) rfl rfl rfl ?_
  refine oj_nil ?_
  refine ej_th (cj_seq (cj_region ?_))
  refine oj_step (y_move rfl) rfl rfl rfl ?_
  refine oj_step (y_ixL 3 Try.underlying79 Try.sizeOf24 rfl rfl ⟨by decide, by decide⟩ (by decide)) rfl rfl rfl ?_
  refine oj_step (y_fa0 fa24_0 rfl) rfl rfl rfl ?_
  refine oj_store rfl rfl rfl rfl Try.sizeOf3 rfl ?_
  refine oj_nil ?_
  refine ej_th (cj_seq (cj_region ?_))
  refine oj_step (y_move rfl) rfl rfl rfl ?_
  refine oj_step (y_ixL 6 Try.underlying79 Try.sizeOf24 rfl rfl ⟨by decide, by decide⟩ (by decide)) rfl rfl rfl ?_
  refine oj_step (y_fa fa24_2 rfl) rfl rfl rfl ?_
  refine oj_step (y_load1 Try.isAgg22 rfl rfl) rfl rfl rfl ?_
  refine oj_step (y_ixL 0 Try.underlying22 Try.sizeOf81 rfl rfl ⟨by decide, by decide⟩ (by decide)) rfl rfl rfl ?_
  refine oj_step (y_fa0 fa81_0 rfl) rfl rfl rfl ?_
  refine oj_store rfl rfl rfl rfl Try.sizeOf3 rfl ?_
  refine oj_nil ?_
  refine ej_th (cj_seq (cj_region ?_))
  refine oj_step (y_move rfl) rfl rfl rfl ?_
  refine oj_step (y_ixL 9 Try.underlying79 Try.sizeOf24 rfl rfl ⟨by decide, by decide⟩ (by decide)) rfl rfl rfl ?_
  refine oj_step (y_fa fa24_2 rfl) rfl rfl rfl ?_
  refine oj_step (y_load1 Try.isAgg22 rfl rfl) rfl rfl rfl ?_
  refine oj_step (y_ixL 2 Try.underlying22 Try.sizeOf81 rfl rfl ⟨by decide, by decide⟩ (by decide)) rfl rfl rfl ?_
  refine oj_step (y_fa0 fa81_0 rfl) rfl rfl rfl ?_
  refine oj_store rfl rfl rfl rfl Try.sizeOf3 rfl ?_
  refine oj_nil ?_
  refine ej_th (cj_seq (cj_region ?_))
  refine oj_step (y_move rfl) rfl rfl rfl ?_
  refine oj_step (y_ixL 12 Try.underlying79 Try.sizeOf24 rfl rfl ⟨by decide, by decide⟩ (by decide)) rfl rfl rfl ?_
  refine oj_step (y_fa fa24_2 rfl) rfl rfl rfl ?_
  refine oj_step (y_load1 Try.isAgg22 rfl rfl) rfl rfl rfl ?_
  refine oj_step (y_ixL 2 Try.underlying22 Try.sizeOf81 rfl rfl ⟨by decide, by decide⟩ (by decide)) rfl rfl rfl ?_
  refine oj_step (y_fa fa81_1 rfl) rfl rfl rfl ?_
  refine oj_store rfl rfl rfl rfl Try.sizeOf3 rfl ?_
  refine oj_nil ?_
  refine ej_th (cj_seq (cj_seq ?_))
  refine cj_regionG (gj_step (y_assign rfl) rfl rfl rfl (gj_nil ?_))
  refine ej_th (cj_block ?_)
  refine cj_lpic (X := Nat) [(1, _)] (fun i => i ≤ 5) (fun i => [(2, .int .i64 (i : Nat))]) (fun i => 5 - i) 0 (Nat.zero_le _) ⟨rfl, rfl, trivial⟩ ?_
  rintro i hi
  dsimp only [List.cons_append, List.nil_append]
  refine cj_seq (cj_seq ?_)
  refine cj_regionG (gj_step (y_move rfl) rfl rfl rfl (gj_step (y_move rfl) rfl rfl rfl (gj_step (y_lenA Try.underlying79 rfl) rfl rfl rfl (gj_step (y_lss rfl rfl) rfl rfl rfl (gj_nil ?_)))))
  refine ej_th ?_
  refine cj_cond rfl (fun h60 => ?_) (fun h60 => ?_)
  · have h60b := h60
    try simp only [sxb] at h60
    have hi5 : i < 5 := by omega
    refine cj_skip (ej_th (cj_seq (cj_block (cj_seq ?_))))
    refine cj_regionG ?_
    refine gj_step (y_move rfl) rfl rfl rfl (gj_step (y_move rfl) rfl rfl rfl (gj_step (y_ixL (i * 3) Try.underlying79 Try.sizeOf24 rfl rfl ⟨by omega, by omega⟩ (by omega)) rfl rfl rfl (gj_step (y_loadN (hv := tkK l31 l32 l33 l34 hi5) Try.isAgg24 Try.sizeOf24 rfl) rfl rfl rfl (?_))))
    refine gj_step (y_call Try.call17 rfl (fun w hp => by
      have h9 : Rd w 2 encRi (alK l31 l32 l33 l34 i) (laK i) := by
        rcases lt5 hi5 with rfl | rfl | rfl | rfl | rfl
        · exact Rd.nil
        · exact hp.rdLit (b := l31) (sz := 2) (enc := encRi) ladX (fun _ => rfl) rfl (by unfold maxLen; decide)
        · exact hp.rdLit (b := l32) (sz := 2) (enc := encRi) [⟨1, 5⟩, ⟨50, 20⟩] (fun _ => rfl) rfl (by unfold maxLen; decide)
        · exact hp.rdLit (b := l33) (sz := 2) (enc := encRi) [⟨0, 5⟩, ⟨0, 20⟩] (fun _ => rfl) rfl (by unfold maxLen; decide)
        · exact hp.rdLit (b := l34) (sz := 2) (enc := encRi) [⟨0, 5⟩, ⟨50, 0⟩] (fun _ => rfl) rfl (by unfold maxLen; decide)
      have h8 := k_Check (stK i) (rvK i) (laK i) (alK l31 l32 l33 l34 i) (lnK i) w h9
      rw [badK hi5] at h8
      exact h8)) rfl rfl rfl ?_
    refine gj_step (y_neq rfl rfl) rfl rfl rfl (?_)
    refine gj_nil ?_
    refine ej_th ?_
    refine cj_condF rfl (by decide) ?_
    refine cj_skip (ej_blk (ej_th ?_))
    refine cj_regionG (gj_step (y_move rfl) rfl rfl rfl (gj_step (y_add rfl rfl (by omega)) rfl rfl rfl (gj_step (y_assign rfl) rfl rfl rfl (gj_nil ?_))))
    exact ej_nx (i + 1) (by omega) (by omega) ⟨rfl, rfl, trivial⟩
  · have h60b := h60
    try simp only [sxb] at h60
    refine cj_exit (ej_then_exit (ej_then_exit (ej_blk_hit (ej_th (cj_seq (cj_region ?_))))))
    refine oj_call (X := Nat) (fun z => .agg #[.int .i64 10, .int .i64 30, .slice (some ⟨z, 0, none⟩) 2 2]) (fun _ => []) (fun z => [litS z 2 encRi ladX]) Try.call45 rfl (fun w hp => k_lotX w) rfl (fun l70 => ?_)
    dsimp only [List.nil_append, List.cons_append]
    refine oj_step (y_call Try.call15 rfl (fun w hp => e_r1 l70 w hp.rd)) rfl rfl rfl ?_
    refine oj_step (y_move rfl) rfl rfl rfl ?_
    refine oj_step (y_extract rfl rfl) rfl rfl rfl ?_
    refine oj_step (y_extract rfl rfl) rfl rfl rfl ?_
    refine oj_step (y_assign rfl) rfl rfl rfl ?_
    refine oj_step (y_assign rfl) rfl rfl rfl ?_
    refine oj_nil ?_
    refine ej_th (cj_seq (cj_region ?_))
    refine oj_call (X := Nat) (fun z => .agg #[.int .i64 10, .int .i64 30, .slice (some ⟨z, 0, none⟩) 2 2]) (fun _ => []) (fun z => [litS z 2 encRi ladX]) Try.call45 rfl (fun w hp => k_lotX w) rfl (fun l75 => ?_)
    dsimp only [List.nil_append, List.cons_append]
    refine oj_step (y_call Try.call15 rfl (fun w hp => e_r2 l75 w hp.rd)) rfl rfl rfl ?_
    refine oj_step (y_move rfl) rfl rfl rfl ?_
    refine oj_step (y_extract rfl rfl) rfl rfl rfl ?_
    refine oj_step (y_extract rfl rfl) rfl rfl rfl ?_
    refine oj_step (y_assign rfl) rfl rfl rfl ?_
    refine oj_step (y_assign rfl) rfl rfl rfl ?_
    refine oj_nil ?_
    refine ej_th (cj_seq (cj_region ?_))
    refine oj_call (X := Nat) (fun z => .agg #[.int .i64 10, .int .i64 30, .slice (some ⟨z, 0, none⟩) 2 2]) (fun _ => []) (fun z => [litS z 2 encRi ladX]) Try.call45 rfl (fun w hp => k_lotX w) rfl (fun l80 => ?_)
    dsimp only [List.nil_append, List.cons_append]
    refine oj_step (y_call Try.call19 rfl (fun w hp => e_n3 l80 w hp.rd)) rfl rfl rfl ?_
    refine oj_step (y_move rfl) rfl rfl rfl ?_
    refine oj_step (y_extract rfl rfl) rfl rfl rfl ?_
    refine oj_step (y_extract rfl rfl) rfl rfl rfl ?_
    refine oj_step (y_assign rfl) rfl rfl rfl ?_
    refine oj_step (y_assign rfl) rfl rfl rfl ?_
    refine oj_nil ?_
    refine ej_th (cj_seq (cj_region ?_))
    refine oj_call (X := Nat) (fun z => .agg #[.int .i64 10, .int .i64 30, .slice (some ⟨z, 0, none⟩) 2 2]) (fun _ => []) (fun z => [litS z 2 encRi ladX]) Try.call45 rfl (fun w hp => k_lotX w) rfl (fun l85 => ?_)
    dsimp only [List.nil_append, List.cons_append]
    refine oj_step (y_move rfl) rfl rfl rfl ?_
    refine oj_step (y_call Try.call19 rfl (fun w hp => e_n4 l85 w hp.rd)) rfl rfl rfl ?_
    refine oj_step (y_move rfl) rfl rfl rfl ?_
    refine oj_step (y_extract rfl rfl) rfl rfl rfl ?_
    refine oj_step (y_extract rfl rfl) rfl rfl rfl ?_
    refine oj_step (y_assign rfl) rfl rfl rfl ?_
    refine oj_step (y_assign rfl) rfl rfl rfl ?_
    refine oj_nil ?_
    refine ej_th (cj_seq (cj_region ?_))
    refine oj_call (X := Nat) (fun z => .agg #[.int .i64 10, .int .i64 30, .slice (some ⟨z, 0, none⟩) 2 2]) (fun _ => []) (fun z => [litS z 2 encRi ladX]) Try.call45 rfl (fun w hp => k_lotX w) rfl (fun l91 => ?_)
    dsimp only [List.nil_append, List.cons_append]
    refine oj_step (y_call Try.call19 rfl (fun w hp => e_n5 l91 w hp.rd)) rfl rfl rfl ?_
    refine oj_step (y_move rfl) rfl rfl rfl ?_
    refine oj_step (y_extract rfl rfl) rfl rfl rfl ?_
    refine oj_step (y_extract rfl rfl) rfl rfl rfl ?_
    refine oj_step (y_assign rfl) rfl rfl rfl ?_
    refine oj_step (y_assign rfl) rfl rfl rfl ?_
    refine oj_nil ?_
    refine ej_th (cj_seq (cj_region ?_))
    refine oj_call (X := Nat) (fun z => .agg #[.int .i64 10, .int .i64 30, .slice (some ⟨z, 0, none⟩) 2 2]) (fun _ => []) (fun z => [litS z 2 encRi ladX]) Try.call45 rfl (fun w hp => k_lotX w) rfl (fun l96 => ?_)
    dsimp only [List.nil_append, List.cons_append]
    refine oj_step (y_call Try.call19 rfl (fun w hp => e_n6 l96 w hp.rd)) rfl rfl rfl ?_
    refine oj_step (y_move rfl) rfl rfl rfl ?_
    refine oj_step (y_extract rfl rfl) rfl rfl rfl ?_
    refine oj_step (y_extract rfl rfl) rfl rfl rfl ?_
    refine oj_step (y_assign rfl) rfl rfl rfl ?_
    refine oj_step (y_assign rfl) rfl rfl rfl ?_
    refine oj_nil ?_
    refine ej_th ?_
    refine cj_cuti (X := Unit) [(4, _), (6, _), (8, _), (10, _), (12, _), (14, _)] ⟨rfl, rfl, rfl, rfl, rfl, rfl, trivial⟩ (fun _ => True) (fun _ => []) (fun _ => []) (fun _ => []) ?_ ?_
    · refine cj_seq ?_
      refine cj_regionG (gj_step (y_move rfl) rfl rfl rfl (gj_step (y_neq rfl rfl) rfl rfl rfl (gj_step (y_move rfl) rfl rfl rfl (gj_g 2 102 104 rfl rfl rfl rfl (fun hg102 => gj_yes rfl rfl rfl (y_move rfl) rfl rfl (gj_yes rfl rfl rfl (y_neq rfl rfl) rfl rfl (gj_nil rfl))) (gj_step (y_or rfl rfl rfl) rfl rfl rfl (gj_step (y_move rfl) rfl rfl rfl (gj_g 2 106 108 rfl rfl rfl rfl (fun hg106 => gj_yes rfl rfl rfl (y_move rfl) rfl rfl (gj_yes rfl rfl rfl (y_neq rfl rfl) rfl rfl (gj_nil rfl))) (gj_step (y_or rfl rfl rfl) rfl rfl rfl (gj_step (y_move rfl) rfl rfl rfl (gj_g 2 110 112 rfl rfl rfl rfl (fun hg110 => gj_yes rfl rfl rfl (y_move rfl) rfl rfl (gj_yes rfl rfl rfl (y_neq rfl rfl) rfl rfl (gj_nil rfl))) (gj_step (y_or rfl rfl rfl) rfl rfl rfl (gj_step (y_move rfl) rfl rfl rfl (gj_g 2 114 116 rfl rfl rfl rfl (fun hg114 => gj_yes rfl rfl rfl (y_move rfl) rfl rfl (gj_yes rfl rfl rfl (y_neq rfl rfl) rfl rfl (gj_nil rfl))) (gj_step (y_or rfl rfl rfl) rfl rfl rfl (gj_step (y_move rfl) rfl rfl rfl (gj_g 2 118 120 rfl rfl rfl rfl (fun hg118 => gj_yes rfl rfl rfl (y_move rfl) rfl rfl (gj_yes rfl rfl rfl (y_neq rfl rfl) rfl rfl (gj_nil rfl))) (gj_step (y_or rfl rfl rfl) rfl rfl rfl (gj_step (y_move rfl) rfl rfl rfl (gj_g 2 122 124 rfl rfl rfl rfl (fun hg122 => gj_yes rfl rfl rfl (y_move rfl) rfl rfl (gj_yes rfl rfl rfl (y_neq rfl rfl) rfl rfl (gj_nil rfl))) (gj_step (y_or rfl rfl rfl) rfl rfl rfl (gj_step (y_move rfl) rfl rfl rfl (gj_g 2 126 128 rfl rfl rfl rfl (fun hg126 => gj_yes rfl rfl rfl (y_move rfl) rfl rfl (gj_yes rfl rfl rfl (y_neq rfl rfl) rfl rfl (gj_nil rfl))) (gj_step (y_or rfl rfl rfl) rfl rfl rfl (gj_nil ?_))))))))))))))))))))))))
      refine ej_th ?_
      refine cj_condF rfl (by decide) ?_
      refine cj_skip ?_
      exact ej_ct () trivial ⟨rfl, rfl, rfl, rfl, rfl, rfl, trivial⟩
    · rintro - -
      dsimp only [List.cons_append, List.nil_append]
      refine cj_seq (cj_region ?_)
      refine oj_call (X := Nat) (fun z => .agg #[.int .i64 10, .int .i64 30, .slice (some ⟨z, 0, none⟩) 2 2]) (fun _ => []) (fun z => [litS z 2 encRi ladX]) Try.call45 rfl (fun w hp => k_lotX w) rfl (fun l131 => ?_)
      dsimp only [List.nil_append, List.cons_append]
      refine oj_step (y_build (cs := [.int .i64 100, .int .i64 0, .int .i64 5]) st53 rfl (by kernel_rfl)) rfl rfl rfl ?_
      refine oj_buildSlice (cs := [.int .i64 100, .int .i64 0, .int .i64 5]) [.int .i64 0, .int .i64 0, .int .i64 0] Try.underlying32 Try.sizeOf53 Try.zeroValue53 rfl rfl (by kernel_rfl) (by kernel_rfl) rfl (fun b133 => ?_)
      refine oj_step (y_call Try.call22 rfl (fun w hp => e_s1 l131 w hp.rd b133 (hp.rdLit (b := b133) (sz := 3) (enc := encBi) bK1 (fun _ => rfl) rfl (by unfold maxLen; decide)))) rfl rfl rfl ?_
      refine oj_step (y_move rfl) rfl rfl rfl ?_
      refine oj_step (y_extract rfl rfl) rfl rfl rfl ?_
      refine oj_step (y_extract rfl rfl) rfl rfl rfl ?_
      refine oj_step (y_assign rfl) rfl rfl rfl ?_
      refine oj_nil ?_
      refine ej_th (cj_seq (cj_region ?_))
      refine oj_call (X := Nat) (fun z => .agg #[.int .i64 10, .int .i64 30, .slice (some ⟨z, 0, none⟩) 2 2]) (fun _ => []) (fun z => [litS z 2 encRi ladX]) Try.call45 rfl (fun w hp => k_lotX w) rfl (fun l138 => ?_)
      dsimp only [List.nil_append, List.cons_append]
      refine oj_step (y_build (cs := [.int .i64 0, .int .i64 4, .int .i64 5]) st53 rfl (by kernel_rfl)) rfl rfl rfl ?_
      refine oj_buildSlice (cs := [.int .i64 0, .int .i64 4, .int .i64 5]) [.int .i64 0, .int .i64 0, .int .i64 0] Try.underlying32 Try.sizeOf53 Try.zeroValue53 rfl rfl (by kernel_rfl) (by kernel_rfl) rfl (fun b140 => ?_)
      refine oj_callS (fun A c => .tuple #[.slice A ([] : List LeadV).length c, .int .i64 61]) 5 encLe ([] : List LeadV) Try.call24 rfl (fun w hp => e_s2 l138 w hp.rd b140 (hp.rdLit (b := b140) (sz := 3) (enc := encBi) bK2 (fun _ => rfl) rfl (by unfold maxLen; decide))) rfl (fun A141 c141 fp141 hfp141 => ?_)
      refine oj_step (y_move rfl) rfl rfl rfl ?_
      refine oj_step (y_extract rfl rfl) rfl rfl rfl ?_
      refine oj_step (y_extract rfl rfl) rfl rfl rfl ?_
      refine oj_step (y_assign rfl) rfl rfl rfl ?_
      refine oj_nil ?_
      refine ej_th ?_
      refine cj_cuti (X := Unit) [(4, _), (6, _), (10, _), (12, _), (14, _)] ⟨rfl, rfl, rfl, rfl, rfl, trivial⟩ (fun _ => True) (fun _ => [(8, .int .i64 61)]) (fun _ => []) (fun _ => []) ?_ ?_
      · refine cj_plan 7 (by kernel_rfl) (by kernel_rfl) ?_
        refine pl_w2 0 1 (by kernel_rfl) rfl rfl (pl_fire rfl rfl rfl (by kernel_rfl) ?_) (pl_fire rfl rfl rfl (by kernel_rfl) ?_)
        · refine oj_call (X := Nat) (fun z => .agg #[.int .i64 10, .int .i64 30, .slice (some ⟨z, 0, none⟩) 2 2]) (fun _ => []) (fun z => [litS z 2 encRi ladX]) Try.call45 rfl (fun w hp => k_lotX w) rfl (fun l145 => ?_)
          dsimp only [List.nil_append, List.cons_append]
          refine oj_nil ?_
          refine ej_pl (lt_nil) ?_
          refine pl_w1 1 (by kernel_rfl) rfl rfl (pl_fire rfl rfl rfl (by kernel_rfl) ?_)
          refine oj_makeSliceC (z := .agg #[.int .i64 0, .int .i64 0, .int .i64 0]) (List.replicate 99 (.int .i64 0)) Try.underlying32 Try.type53 (by kernel_rfl) (by kernel_rfl) rfl rfl (by decide) (by decide) (by kernel_rfl) rfl (fun b146 => ?_)
          refine oj_nil ?_
          refine ej_pl (lt_nil) ?_
          refine pl_y 2 rfl (y_call Try.call22 rfl (fun w hp => e_s3 l145 w hp.rd b146 (hp.rdLit (b := b146) (sz := 3) (enc := encBi) bK3 (fun _ => rfl) (by kernel_rfl) (by unfold maxLen; decide)))) rfl rfl rfl rfl (by kernel_rfl) ?_
          refine pl_y 3 rfl (y_move rfl) rfl rfl rfl rfl (by kernel_rfl) ?_
          refine pl_y 4 rfl (y_extract rfl rfl) rfl rfl rfl rfl (by kernel_rfl) ?_
          refine pl_y 5 rfl (y_extract rfl rfl) rfl rfl rfl rfl (by kernel_rfl) ?_
          refine pl_y 6 rfl (y_assign rfl) rfl rfl rfl rfl (by kernel_rfl) ?_
          refine pl_end (by kernel_rfl) ?_
          exact ej_ct () trivial ⟨rfl, rfl, rfl, rfl, rfl, rfl, trivial⟩
        · refine oj_makeSliceC (z := .agg #[.int .i64 0, .int .i64 0, .int .i64 0]) (List.replicate 99 (.int .i64 0)) Try.underlying32 Try.type53 (by kernel_rfl) (by kernel_rfl) rfl rfl (by decide) (by decide) (by kernel_rfl) rfl (fun b146 => ?_)
          refine oj_nil ?_
          refine ej_pl (lt_nil) ?_
          refine pl_w1 0 (by kernel_rfl) rfl rfl (pl_fire rfl rfl rfl (by kernel_rfl) ?_)
          refine oj_call (X := Nat) (fun z => .agg #[.int .i64 10, .int .i64 30, .slice (some ⟨z, 0, none⟩) 2 2]) (fun _ => []) (fun z => [litS z 2 encRi ladX]) Try.call45 rfl (fun w hp => k_lotX w) rfl (fun l145 => ?_)
          dsimp only [List.nil_append, List.cons_append]
          refine oj_nil ?_
          refine ej_pl (lt_nil) ?_
          refine pl_y 2 rfl (y_call Try.call22 rfl (fun w hp => e_s3 l145 w hp.rd b146 (hp.rdLit (b := b146) (sz := 3) (enc := encBi) bK3 (fun _ => rfl) (by kernel_rfl) (by unfold maxLen; decide)))) rfl rfl rfl rfl (by kernel_rfl) ?_
          refine pl_y 3 rfl (y_move rfl) rfl rfl rfl rfl (by kernel_rfl) ?_
          refine pl_y 4 rfl (y_extract rfl rfl) rfl rfl rfl rfl (by kernel_rfl) ?_
          refine pl_y 5 rfl (y_extract rfl rfl) rfl rfl rfl rfl (by kernel_rfl) ?_
          refine pl_y 6 rfl (y_assign rfl) rfl rfl rfl rfl (by kernel_rfl) ?_
          refine pl_end (by kernel_rfl) ?_
          exact ej_ct () trivial ⟨rfl, rfl, rfl, rfl, rfl, rfl, trivial⟩
      · rintro - -
        dsimp only [List.cons_append, List.nil_append]
        refine cj_seq (cj_region ?_)
        refine oj_call (X := Nat) (fun z => .agg #[.int .i64 10, .int .i64 30, .slice (some ⟨z, 0, none⟩) 2 2]) (fun _ => []) (fun z => [litS z 2 encRi ladX]) Try.call45 rfl (fun w hp => k_lotX w) rfl (fun l151 => ?_)
        dsimp only [List.nil_append, List.cons_append]
        refine oj_step (y_build (cs := [.int .i64 0, .int .i64 0, .int .i64 29]) st53 rfl (by kernel_rfl)) rfl rfl rfl ?_
        refine oj_buildSlice (cs := [.int .i64 0, .int .i64 0, .int .i64 29]) [.int .i64 0, .int .i64 0, .int .i64 0] Try.underlying32 Try.sizeOf53 Try.zeroValue53 rfl rfl (by kernel_rfl) (by kernel_rfl) rfl (fun b153 => ?_)
        refine oj_step (y_call Try.call22 rfl (fun w hp => e_s4 l151 w hp.rd b153 (hp.rdLit (b := b153) (sz := 3) (enc := encBi) bK4 (fun _ => rfl) rfl (by unfold maxLen; decide)))) rfl rfl rfl ?_
        refine oj_step (y_move rfl) rfl rfl rfl ?_
        refine oj_step (y_extract rfl rfl) rfl rfl rfl ?_
        refine oj_step (y_extract rfl rfl) rfl rfl rfl ?_
        refine oj_alloc Try.zeroValue34 rfl rfl (fun b15 => ?_)
        refine oj_store rfl rfl rfl rfl Try.sizeOf34 rfl ?_
        refine oj_step (y_assign rfl) rfl rfl rfl ?_
        refine oj_nil ?_
        refine ej_th (cj_seq (cj_region ?_))
        refine oj_call (X := Nat) (fun z => .agg #[.int .i64 10, .int .i64 30, .slice (some ⟨z, 0, none⟩) 2 2]) (fun _ => []) (fun z => [litS z 2 encRi ladX]) Try.call45 rfl (fun w hp => k_lotX w) rfl (fun l158 => ?_)
        dsimp only [List.nil_append, List.cons_append]
        refine oj_step (y_build (cs := [.int .i64 2, .int .i64 0, .int .i64 45]) st53 rfl (by kernel_rfl)) rfl rfl rfl ?_
        refine oj_buildSlice (cs := [.int .i64 2, .int .i64 0, .int .i64 45]) [.int .i64 0, .int .i64 0, .int .i64 0] Try.underlying32 Try.sizeOf53 Try.zeroValue53 rfl rfl (by kernel_rfl) (by kernel_rfl) rfl (fun b160 => ?_)
        refine oj_step (y_call Try.call22 rfl (fun w hp => e_s5 l158 w hp.rd b160 (hp.rdLit (b := b160) (sz := 3) (enc := encBi) bK5 (fun _ => rfl) rfl (by unfold maxLen; decide)))) rfl rfl rfl ?_
        refine oj_step (y_move rfl) rfl rfl rfl ?_
        refine oj_step (y_extract rfl rfl) rfl rfl rfl ?_
        refine oj_step (y_extract rfl rfl) rfl rfl rfl ?_
        refine oj_alloc Try.zeroValue34 rfl rfl (fun b16 => ?_)
        refine oj_store rfl rfl rfl rfl Try.sizeOf34 rfl ?_
        refine oj_step (y_assign rfl) rfl rfl rfl ?_
        refine oj_nil ?_
        refine ej_th (cj_seq (cj_region ?_))
        refine oj_call (X := Nat) (fun z => .agg #[.int .i64 10, .int .i64 30, .slice (some ⟨z, 0, none⟩) 2 2]) (fun _ => []) (fun z => [litS z 2 encRi ladX]) Try.call45 rfl (fun w hp => k_lotX w) rfl (fun l165 => ?_)
        dsimp only [List.nil_append, List.cons_append]
        refine oj_step (y_build (cs := [.int .i64 5, .int .i64 3, .int .i64 46]) st53 rfl (by kernel_rfl)) rfl rfl rfl ?_
        refine oj_step (y_build (cs := [.int .i64 4, .int .i64 1, .int .i64 45]) st53 rfl (by kernel_rfl)) rfl rfl rfl ?_
        refine oj_step (y_build (cs := [.int .i64 5, .int .i64 0, .int .i64 48]) st53 rfl (by kernel_rfl)) rfl rfl rfl ?_
        refine oj_buildSlice (cs := [.int .i64 5, .int .i64 3, .int .i64 46, .int .i64 4, .int .i64 1, .int .i64 45, .int .i64 5, .int .i64 0, .int .i64 48]) [.int .i64 0, .int .i64 0, .int .i64 0, .int .i64 0, .int .i64 0, .int .i64 0, .int .i64 0, .int .i64 0, .int .i64 0] Try.underlying32 Try.sizeOf53 Try.zeroValue53 rfl rfl (by kernel_rfl) (by kernel_rfl) rfl (fun b169 => ?_)
        refine oj_step (y_call Try.call22 rfl (fun w hp => e_s6 l165 w hp.rd b169 (hp.rdLit (b := b169) (sz := 3) (enc := encBi) bK6 (fun _ => rfl) rfl (by unfold maxLen; decide)))) rfl rfl rfl ?_
        refine oj_step (y_move rfl) rfl rfl rfl ?_
        refine oj_step (y_extract rfl rfl) rfl rfl rfl ?_
        refine oj_step (y_extract rfl rfl) rfl rfl rfl ?_
        refine oj_alloc Try.zeroValue34 rfl rfl (fun b17 => ?_)
        refine oj_store rfl rfl rfl rfl Try.sizeOf34 rfl ?_
        refine oj_step (y_assign rfl) rfl rfl rfl ?_
        refine oj_nil ?_
        refine ej_th (cj_seq (cj_region ?_))
        refine oj_call (X := Nat) (fun z => .agg #[.int .i64 10, .int .i64 30, .slice (some ⟨z, 0, none⟩) 2 2]) (fun _ => []) (fun z => [litS z 2 encRi ladX]) Try.call45 rfl (fun w hp => k_lotX w) rfl (fun l173 => ?_)
        dsimp only [List.nil_append, List.cons_append]
        refine oj_alloc Try.zeroValue24 rfl rfl (fun b18 => ?_)
        refine oj_store rfl rfl rfl rfl Try.sizeOf24 rfl ?_
        refine oj_nil ?_
        refine ej_th (cj_seq (cj_region ?_))
        refine oj_step (y_fa fa24_1 rfl) rfl rfl rfl ?_
        refine oj_store rfl rfl rfl rfl Try.sizeOf3 rfl ?_
        refine oj_nil ?_
        refine ej_th (cj_seq (cj_region ?_))
        refine oj_step (y_loadN Try.isAgg24 Try.sizeOf24 rfl) rfl rfl rfl ?_
        refine oj_step (y_build (cs := [.int .i64 0, .int .i64 0, .int .i64 100000]) st53 rfl (by kernel_rfl)) rfl rfl rfl ?_
        refine oj_buildSlice (cs := [.int .i64 0, .int .i64 0, .int .i64 100000]) [.int .i64 0, .int .i64 0, .int .i64 0] Try.underlying32 Try.sizeOf53 Try.zeroValue53 rfl rfl (by kernel_rfl) (by kernel_rfl) rfl (fun b178 => ?_)
        refine oj_step (y_call Try.call22 rfl (fun w hp => e_s7 l173 w hp.rd b178 (hp.rdLit (b := b178) (sz := 3) (enc := encBi) bK7 (fun _ => rfl) rfl (by unfold maxLen; decide)))) rfl rfl rfl ?_
        refine oj_step (y_move rfl) rfl rfl rfl ?_
        refine oj_step (y_extract rfl rfl) rfl rfl rfl ?_
        refine oj_step (y_extract rfl rfl) rfl rfl rfl ?_
        refine oj_alloc Try.zeroValue34 rfl rfl (fun b19 => ?_)
        refine oj_store rfl rfl rfl rfl Try.sizeOf34 rfl ?_
        refine oj_step (y_assign rfl) rfl rfl rfl ?_
        refine oj_nil ?_
        refine ej_th ?_
        refine cj_cuti (X := Unit) [(8, _), (4, _), (6, _), (10, _), (12, _), (14, _), (20, _)] ⟨rfl, rfl, rfl, rfl, rfl, rfl, rfl, trivial⟩ (fun _ => True) (fun _ => []) (fun _ => []) (fun _ => []) ?_ ?_
        · refine cj_seq ?_
          refine cj_regionG (gj_step (y_move rfl) rfl rfl rfl (gj_step (y_neq rfl rfl) rfl rfl rfl (gj_step (y_move rfl) rfl rfl rfl (gj_g 2 184 186 rfl rfl rfl rfl (fun hg184 => gj_yes rfl rfl rfl (y_move rfl) rfl rfl (gj_yes rfl rfl rfl (y_neq rfl rfl) rfl rfl (gj_nil rfl))) (gj_step (y_or rfl rfl rfl) rfl rfl rfl (gj_step (y_move rfl) rfl rfl rfl (gj_g 2 188 190 rfl rfl rfl rfl (fun hg188 => gj_yes rfl rfl rfl (y_move rfl) rfl rfl (gj_yes rfl rfl rfl (y_neq rfl rfl) rfl rfl (gj_nil rfl))) (gj_step (y_or rfl rfl rfl) rfl rfl rfl (gj_step (y_move rfl) rfl rfl rfl (gj_g 2 192 194 rfl rfl rfl rfl (fun hg192 => gj_yes rfl rfl rfl (y_move rfl) rfl rfl (gj_yes rfl rfl rfl (y_neq rfl rfl) rfl rfl (gj_nil rfl))) (gj_step (y_or rfl rfl rfl) rfl rfl rfl (gj_step (y_move rfl) rfl rfl rfl (gj_g 3 196 199 rfl rfl rfl rfl (fun hg196 => gj_yes rfl rfl rfl (y_loadN Try.isAgg34 Try.sizeOf34 rfl) rfl rfl (gj_yes rfl rfl rfl (y_build (cs := [.int .i64 (-1), .int .i64 0]) st34 rfl (by kernel_rfl)) rfl rfl (gj_yes rfl rfl rfl (y_bin rfl rfl (fun x y w => ne34 _ _ _ _ x y w)) rfl rfl (gj_nil rfl)))) (gj_step (y_or rfl rfl rfl) rfl rfl rfl (gj_step (y_move rfl) rfl rfl rfl (gj_g 2 201 203 rfl rfl rfl rfl (fun hg201 => gj_yes rfl rfl rfl (y_move rfl) rfl rfl (gj_yes rfl rfl rfl (y_neq rfl rfl) rfl rfl (gj_nil rfl))) (gj_step (y_or rfl rfl rfl) rfl rfl rfl (gj_step (y_move rfl) rfl rfl rfl (gj_g 3 205 208 rfl rfl rfl rfl (fun hg205 => gj_yes rfl rfl rfl (y_loadN Try.isAgg34 Try.sizeOf34 rfl) rfl rfl (gj_yes rfl rfl rfl (y_build (cs := [.int .i64 2, .int .i64 30]) st34 rfl (by kernel_rfl)) rfl rfl (gj_yes rfl rfl rfl (y_bin rfl rfl (fun x y w => ne34 _ _ _ _ x y w)) rfl rfl (gj_nil rfl)))) (gj_step (y_or rfl rfl rfl) rfl rfl rfl (gj_step (y_move rfl) rfl rfl rfl (gj_g 2 210 212 rfl rfl rfl rfl (fun hg210 => gj_yes rfl rfl rfl (y_move rfl) rfl rfl (gj_yes rfl rfl rfl (y_neq rfl rfl) rfl rfl (gj_nil rfl))) (gj_step (y_or rfl rfl rfl) rfl rfl rfl (gj_step (y_move rfl) rfl rfl rfl (gj_g 3 214 217 rfl rfl rfl rfl (fun hg214 => gj_yes rfl rfl rfl (y_loadN Try.isAgg34 Try.sizeOf34 rfl) rfl rfl (gj_yes rfl rfl rfl (y_build (cs := [.int .i64 5, .int .i64 45]) st34 rfl (by kernel_rfl)) rfl rfl (gj_yes rfl rfl rfl (y_bin rfl rfl (fun x y w => ne34 _ _ _ _ x y w)) rfl rfl (gj_nil rfl)))) (gj_step (y_or rfl rfl rfl) rfl rfl rfl (gj_step (y_move rfl) rfl rfl rfl (gj_g 2 219 221 rfl rfl rfl rfl (fun hg219 => gj_yes rfl rfl rfl (y_move rfl) rfl rfl (gj_yes rfl rfl rfl (y_neq rfl rfl) rfl rfl (gj_nil rfl))) (gj_step (y_or rfl rfl rfl) rfl rfl rfl (gj_step (y_move rfl) rfl rfl rfl (gj_g 3 223 226 rfl rfl rfl rfl (fun hg223 => gj_yes rfl rfl rfl (y_loadN Try.isAgg34 Try.sizeOf34 rfl) rfl rfl (gj_yes rfl rfl rfl (y_build (cs := [.int .i64 (-1), .int .i64 0]) st34 rfl (by kernel_rfl)) rfl rfl (gj_yes rfl rfl rfl (y_bin rfl rfl (fun x y w => ne34 _ _ _ _ x y w)) rfl rfl (gj_nil rfl)))) (gj_step (y_or rfl rfl rfl) rfl rfl rfl (gj_nil ?_)))))))))))))))))))))))))))))))))
          refine ej_th ?_
          refine cj_condF rfl (by decide) ?_
          refine cj_skip ?_
          exact ej_ct () trivial ⟨rfl, rfl, rfl, rfl, rfl, rfl, rfl, trivial⟩
        · rintro - -
          dsimp only [List.cons_append, List.nil_append]
          refine cj_seq (cj_region ?_)
          refine oj_call (X := Nat) (fun z => .agg #[.int .i64 10, .int .i64 30, .slice (some ⟨z, 0, none⟩) 2 2]) (fun _ => []) (fun z => [litS z 2 encRi ladX]) Try.call45 rfl (fun w hp => k_lotX w) rfl (fun l229 => ?_)
          dsimp only [List.nil_append, List.cons_append]
          refine oj_step (y_build (cs := [.int .i64 1, .int .i64 0, .int .i64 45]) st53 rfl (by kernel_rfl)) rfl rfl rfl ?_
          refine oj_step (y_build (cs := [.int .i64 2, .int .i64 0, .int .i64 45]) st53 rfl (by kernel_rfl)) rfl rfl rfl ?_
          refine oj_step (y_build (cs := [.int .i64 1, .int .i64 0, .int .i64 70]) st53 rfl (by kernel_rfl)) rfl rfl rfl ?_
          refine oj_step (y_build (cs := [.int .i64 9, .int .i64 0, .int .i64 5]) st53 rfl (by kernel_rfl)) rfl rfl rfl ?_
          refine oj_buildSlice (cs := [.int .i64 1, .int .i64 0, .int .i64 45, .int .i64 2, .int .i64 0, .int .i64 45, .int .i64 1, .int .i64 0, .int .i64 70, .int .i64 9, .int .i64 0, .int .i64 5]) [.int .i64 0, .int .i64 0, .int .i64 0, .int .i64 0, .int .i64 0, .int .i64 0, .int .i64 0, .int .i64 0, .int .i64 0, .int .i64 0, .int .i64 0, .int .i64 0] Try.underlying32 Try.sizeOf53 Try.zeroValue53 rfl rfl (by kernel_rfl) (by kernel_rfl) rfl (fun b234 => ?_)
          refine oj_callS (fun A c => .tuple #[.slice A rK8.length c, .int .i64 0]) 5 encLe rK8 Try.call24 rfl (fun w hp => e_s8 l229 w hp.rd b234 (hp.rdLit (b := b234) (sz := 3) (enc := encBi) bK8 (fun _ => rfl) rfl (by unfold maxLen; decide))) rfl (fun A235 c235 fp235 hfp235 => ?_)
          refine oj_step (y_move rfl) rfl rfl rfl ?_
          refine oj_step (y_extract rfl rfl) rfl rfl rfl ?_
          refine oj_step (y_extract rfl rfl) rfl rfl rfl ?_
          refine oj_step (y_assign rfl) rfl rfl rfl ?_
          refine oj_step (y_assign rfl) rfl rfl rfl ?_
          refine oj_nil ?_
          refine ej_th ?_
          refine cj_cuti (X := Unit) [(8, _), (4, _), (6, _), (10, _), (12, _), (14, _), (20, _)] ⟨rfl, rfl, rfl, rfl, rfl, rfl, rfl, trivial⟩ (fun _ => True) (fun _ => []) (fun _ => []) (fun _ => []) ?_ ?_
          · refine cj_seq ?_
            refine cj_draw (by kernel_rfl) (by kernel_rfl) (gj_step (y_move rfl) rfl rfl rfl (gj_step (y_neq rfl rfl) rfl rfl rfl (gj_step (y_move rfl) rfl rfl rfl (gj_g 3 240 243 rfl rfl rfl rfl (fun hg240 => gj_yes rfl rfl rfl (y_move rfl) rfl rfl (gj_yes rfl rfl rfl (y_lenA Try.underlying37 rfl) rfl rfl (gj_yes rfl rfl rfl (y_neq rfl rfl) rfl rfl (gj_nil rfl)))) (gj_step (y_or rfl rfl rfl) rfl rfl rfl (gj_step (y_move rfl) rfl rfl rfl (gj_g 5 245 250 rfl rfl rfl rfl (fun hg245 => gj_yes rfl rfl rfl (y_move rfl) rfl rfl (gj_yes rfl rfl rfl (y_ixR (reads_sl (xs := rK8) (enc := encLe) (sz := 5)) Try.underlying37 Try.sizeOf41 rfl rfl ⟨by decide, by decide⟩) rfl rfl (gj_yes rfl rfl rfl (y_ldW (reads_sl (xs := rK8) (enc := encLe) (sz := 5)) Try.isAgg41 Try.sizeOf41 rfl (show rK8[1]? = some ⟨1, 45, 0, 45, 45⟩ from rfl) (fun _ => rfl)) rfl rfl (gj_yes rfl rfl rfl (y_build (cs := [.int .i64 1, .int .i64 45, .int .i64 0, .int .i64 45, .int .i64 45]) st41 rfl (by kernel_rfl)) rfl rfl (gj_yes rfl rfl rfl (y_bin rfl rfl (fun x y w => ne41 _ _ _ _ _ _ _ _ _ _ x y w)) rfl rfl (gj_nil rfl)))))) (gj_step (y_or rfl rfl rfl) rfl rfl rfl (gj_step (y_move rfl) rfl rfl rfl (gj_g 5 252 257 rfl rfl rfl rfl (fun hg252 => gj_yes rfl rfl rfl (y_move rfl) rfl rfl (gj_yes rfl rfl rfl (y_ixR (reads_sl (xs := rK8) (enc := encLe) (sz := 5)) Try.underlying37 Try.sizeOf41 rfl rfl ⟨by decide, by decide⟩) rfl rfl (gj_yes rfl rfl rfl (y_ldW (reads_sl (xs := rK8) (enc := encLe) (sz := 5)) Try.isAgg41 Try.sizeOf41 rfl (show rK8[2]? = some ⟨1, 70, 0, 45, 50⟩ from rfl) (fun _ => rfl)) rfl rfl (gj_yes rfl rfl rfl (y_build (cs := [.int .i64 1, .int .i64 70, .int .i64 0, .int .i64 45, .int .i64 50]) st41 rfl (by kernel_rfl)) rfl rfl (gj_yes rfl rfl rfl (y_bin rfl rfl (fun x y w => ne41 _ _ _ _ _ _ _ _ _ _ x y w)) rfl rfl (gj_nil rfl)))))) (gj_step (y_or rfl rfl rfl) rfl rfl rfl (gj_step (y_move rfl) rfl rfl rfl (gj_g 7 259 266 rfl rfl rfl rfl (fun hg259 => gj_yes rfl rfl rfl (y_move rfl) rfl rfl (gj_yes rfl rfl rfl (y_ixR (reads_sl (xs := rK8) (enc := encLe) (sz := 5)) Try.underlying37 Try.sizeOf41 rfl rfl ⟨by decide, by decide⟩) rfl rfl (gj_yes rfl rfl rfl (y_ldW (reads_sl (xs := rK8) (enc := encLe) (sz := 5)) Try.isAgg41 Try.sizeOf41 rfl (show rK8[3]? = some ⟨1, 70, 0, 45, 50⟩ from rfl) (fun _ => rfl)) rfl rfl (gj_yes rfl rfl rfl (y_move rfl) rfl rfl (gj_yes rfl rfl rfl (y_ixR (reads_sl (xs := rK8) (enc := encLe) (sz := 5)) Try.underlying37 Try.sizeOf41 rfl rfl ⟨by decide, by decide⟩) rfl rfl (gj_yes rfl rfl rfl (y_ldW (reads_sl (xs := rK8) (enc := encLe) (sz := 5)) Try.isAgg41 Try.sizeOf41 rfl (show rK8[2]? = some ⟨1, 70, 0, 45, 50⟩ from rfl) (fun _ => rfl)) rfl rfl (gj_yes rfl rfl rfl (y_bin rfl rfl (fun x y w => ne41 _ _ _ _ _ _ _ _ _ _ x y w)) rfl rfl (gj_nil rfl)))))))) (gj_step (y_or rfl rfl rfl) rfl rfl rfl (gj_nil ?_)))))))))))))))
            refine ej_th ?_
            refine cj_condF rfl (by decide) ?_
            refine cj_skip ?_
            exact ej_ct () trivial ⟨rfl, rfl, rfl, rfl, rfl, rfl, rfl, trivial⟩
          · rintro - -
            dsimp only [List.cons_append, List.nil_append]
            refine cj_seq (cj_region ?_)
            refine oj_step (y_build st60 rfl rfl) rfl rfl rfl ?_
            refine oj_call (X := Nat × Nat × Nat × Nat × Nat) (fun z => .agg #[.slice (some ⟨z.1, 0, none⟩) 2 2, .slice (some ⟨z.2.1, 0, none⟩) 3 3]) (fun z => [ownB z.1 (cellsB 3 [.int .i64 2, .int .i64 0]), ownB z.2.1 (cellsB 43 [.slice (some ⟨z.2.2.1, 0, none⟩) 2 2, .slice (some ⟨z.2.2.2.1, 0, none⟩) 2 2, .slice (some ⟨z.2.2.2.2, 0, none⟩) 2 2])]) (fun z => [litS z.2.2.1 1 enInt [10, 6], litS z.2.2.2.1 1 enInt [8, 7], litS z.2.2.2.2 1 enInt [5, 0]]) Try.call46 rfl (fun w hp => k_closingO w) rfl ?_
            rintro ⟨r269, v269, x269, y269, z269⟩
            dsimp only [List.nil_append, List.cons_append]
            refine oj_call (X := Nat × Nat × Nat × Nat × Nat) (fun z => .agg #[.slice (some ⟨z.1, 0, none⟩) 2 2, .slice (some ⟨z.2.1, 0, none⟩) 3 3]) (fun z => [ownB z.1 (cellsB 3 [.int .i64 2, .int .i64 0]), ownB z.2.1 (cellsB 43 [.slice (some ⟨z.2.2.1, 0, none⟩) 2 2, .slice (some ⟨z.2.2.2.1, 0, none⟩) 2 2, .slice (some ⟨z.2.2.2.2, 0, none⟩) 2 2])]) (fun z => [litS z.2.2.1 1 enInt [10, 6], litS z.2.2.2.1 1 enInt [8, 7], litS z.2.2.2.2 1 enInt [5, 0]]) Try.call46 rfl (fun w hp => k_closingO w) rfl ?_
            rintro ⟨r270, v270, x270, y270, z270⟩
            dsimp only [List.nil_append, List.cons_append]
            refine oj_call (X := Nat × Nat × Nat × Nat × Nat) (fun z => .agg #[.slice (some ⟨z.1, 0, none⟩) 2 2, .slice (some ⟨z.2.1, 0, none⟩) 3 3]) (fun z => [ownB z.1 (cellsB 3 [.int .i64 2, .int .i64 0]), ownB z.2.1 (cellsB 43 [.slice (some ⟨z.2.2.1, 0, none⟩) 2 2, .slice (some ⟨z.2.2.2.1, 0, none⟩) 2 2, .slice (some ⟨z.2.2.2.2, 0, none⟩) 2 2])]) (fun z => [litS z.2.2.1 1 enInt [10, 6], litS z.2.2.2.1 1 enInt [8, 7], litS z.2.2.2.2 1 enInt [5, 0]]) Try.call46 rfl (fun w hp => k_closingO w) rfl ?_
            rintro ⟨r271, v271, x271, y271, z271⟩
            dsimp only [List.nil_append, List.cons_append]
            refine oj_buildSlice (cs := [.slice none 0 0, .slice none 0 0, .slice (some ⟨r269, 0, none⟩) 2 2, .slice (some ⟨v269, 0, none⟩) 3 3, .slice (some ⟨r270, 0, none⟩) 2 2, .slice (some ⟨v270, 0, none⟩) 3 3, .slice (some ⟨r271, 0, none⟩) 2 2, .slice (some ⟨v271, 0, none⟩) 3 3]) [.slice none 0 0, .slice none 0 0, .slice none 0 0, .slice none 0 0, .slice none 0 0, .slice none 0 0, .slice none 0 0, .slice none 0 0] Try.underlying83 Try.sizeOf60 Try.zeroValue60 rfl rfl (by kernel_rfl) (by kernel_rfl) rfl (fun b272 => ?_)
            refine oj_step (y_assign rfl) rfl rfl rfl ?_
            refine oj_nil ?_
            refine ej_th (cj_seq (cj_region ?_))
            refine oj_step (y_move rfl) rfl rfl rfl ?_
            refine oj_step (y_ixL 2 Try.underlying83 Try.sizeOf60 rfl rfl ⟨by decide, by decide⟩ (by decide)) rfl rfl rfl ?_
            refine oj_step (y_fa0 fa60_0 rfl) rfl rfl rfl ?_
            refine oj_step (y_load1 Try.isAgg43 rfl rfl) rfl rfl rfl ?_
            refine oj_step (y_ixL 0 Try.underlying43 Try.sizeOf3 rfl rfl ⟨by decide, by decide⟩ (by decide)) rfl rfl rfl ?_
            refine oj_store rfl rfl rfl rfl Try.sizeOf3 rfl ?_
            refine oj_nil ?_
            refine ej_th (cj_seq (cj_region ?_))
            refine oj_step (y_move rfl) rfl rfl rfl ?_
            refine oj_step (y_ixL 4 Try.underlying83 Try.sizeOf60 rfl rfl ⟨by decide, by decide⟩ (by decide)) rfl rfl rfl ?_
            refine oj_step (y_fa fa60_1 rfl) rfl rfl rfl ?_
            refine oj_step (y_load1 Try.isAgg58 rfl rfl) rfl rfl rfl ?_
            refine oj_buildSlice (cs := [.int .i64 8]) [.int .i64 0] Try.underlying43 Try.sizeOf3 Try.zeroValue3 rfl rfl (by kernel_rfl) (by kernel_rfl) rfl (fun b282 => ?_)
            refine oj_step (y_ixL 1 Try.underlying58 Try.sizeOf43 rfl rfl ⟨by decide, by decide⟩ (by decide)) rfl rfl rfl ?_
            refine oj_store rfl rfl rfl rfl Try.sizeOf43 rfl ?_
            refine oj_nil ?_
            refine ej_th (cj_seq (cj_region ?_))
            refine oj_step (y_move rfl) rfl rfl rfl ?_
            refine oj_makeSliceC (z := .slice none 0 0) (List.replicate 7 (.slice none 0 0)) Try.underlying58 Try.type43 (by kernel_rfl) (by kernel_rfl) rfl rfl (by decide) (by decide) (by kernel_rfl) rfl (fun b285 => ?_)
            refine oj_step (y_ixL 6 Try.underlying83 Try.sizeOf60 rfl rfl ⟨by decide, by decide⟩ (by decide)) rfl rfl rfl ?_
            refine oj_step (y_fa fa60_1 rfl) rfl rfl rfl ?_
            refine oj_store rfl rfl rfl rfl Try.sizeOf58 rfl ?_
            refine oj_nil ?_
            refine ej_th (cj_seq (cj_seq ?_))
            refine cj_regionG (gj_step (y_assign rfl) rfl rfl rfl (gj_nil ?_))
            refine ej_th (cj_block ?_)
            refine cj_lpic (X := Nat) [(8, _), (4, _), (6, _), (10, _), (12, _), (14, _), (20, _), (22, _)] (fun i => i ≤ 4) (fun i => [(23, .int .i64 (i : Nat))]) (fun i => 4 - i) 0 (Nat.zero_le _) ⟨rfl, rfl, rfl, rfl, rfl, rfl, rfl, rfl, rfl, trivial⟩ ?_
            rintro i hi
            dsimp only [List.cons_append, List.nil_append]
            refine cj_seq (cj_seq ?_)
            refine cj_regionG (gj_step (y_move rfl) rfl rfl rfl (gj_step (y_move rfl) rfl rfl rfl (gj_step (y_lenA Try.underlying83 rfl) rfl rfl rfl (gj_step (y_lss rfl rfl) rfl rfl rfl (gj_nil ?_)))))
            refine ej_th ?_
            refine cj_cond rfl (fun h291 => ?_) (fun h291 => ?_)
            · have h291b := h291
              try simp only [sxb] at h291
              have hi4 : i < 4 := by omega
              refine cj_skip (ej_th (cj_seq (cj_block (cj_seq ?_))))
              refine cj_regionG ?_
              refine gj_step (y_move rfl) rfl rfl rfl (gj_step (y_move rfl) rfl rfl rfl (gj_step (y_ixL (i * 2) Try.underlying83 Try.sizeOf60 rfl rfl ⟨by omega, by omega⟩ (by omega)) rfl rfl rfl (gj_step (y_loadN (hv := tkC r269 v269 r270 v270 r271 b285 x269 y269 z269 x270 b282 z270 hi4) Try.isAgg60 Try.sizeOf60 rfl) rfl rfl rfl (?_))))
              refine gj_step (y_call Try.call40 rfl (fun w hp => by
                have h1 : Rd w 1 enInt (arK r269 r270 r271 i) (reK i) := by
                  rcases lt4 hi4 with rfl | rfl | rfl | rfl
                  · exact Rd.nil
                  · exact hp.rdLit (b := r269) (sz := 1) (enc := enInt) [100001, 0] (fun _ => rfl) rfl (by unfold maxLen; decide)
                  · exact hp.rdLit (b := r270) (sz := 1) (enc := enInt) [2, 0] (fun _ => rfl) rfl (by unfold maxLen; decide)
                  · exact hp.rdLit (b := r271) (sz := 1) (enc := enInt) [2, 0] (fun _ => rfl) rfl (by unfold maxLen; decide)
                have h2 : Rd w 1 encLs (arK v269 v270 b285 i) (roK x269 y269 z269 x270 b282 z270 i) := by
                  rcases lt4 hi4 with rfl | rfl | rfl | rfl
                  · exact Rd.nil
                  · exact hp.rdLit (b := v269) (sz := 1) (enc := encLs) (rowsX x269 y269 z269) (fun _ => rfl) rfl (by unfold maxLen; simp)
                  · exact hp.rdLit (b := v270) (sz := 1) (enc := encLs) (rows2 x270 b282 z270) (fun _ => rfl) rfl (by unfold maxLen; simp)
                  · exact hp.rdLit (b := b285) (sz := 1) (enc := encLs) rows7 (fun _ => rfl) rfl (by unfold maxLen; simp)
                have h3 : ∀ q ∈ roK x269 y269 z269 x270 b282 z270 i, GoodL w q := by
                  rcases lt4 hi4 with rfl | rfl | rfl | rfl
                  · intro q hq; cases hq
                  · intro q hq
                    have hq : q ∈ rowsX x269 y269 z269 := hq
                    simp only [List.mem_cons, List.mem_nil_iff, or_false] at hq
                    rcases hq with rfl | rfl | rfl <;> exact hp.rd
                  · intro q hq
                    have hq : q ∈ rows2 x270 b282 z270 := hq
                    simp only [List.mem_cons, List.mem_nil_iff, or_false] at hq
                    rcases hq with rfl | rfl | rfl
                    · exact hp.rd
                    · exact hp.rdLit (b := b282) (sz := 1) (enc := enInt) [8] (fun _ => rfl) rfl (by unfold maxLen; decide)
                    · exact hp.rd
                  · intro q hq
                    have hq : q ∈ rows7 := hq
                    rw [List.eq_of_mem_replicate hq]
                    exact Rd.nil
                have h8 := k_CheckC (reK i) (arK r269 r270 r271 i) (crK i) (roK x269 y269 z269 x270 b282 z270 i) (arK v269 v270 b285 i) (cvK i) w h1 h2 h3
                rw [badC _ _ _ _ _ _ hi4] at h8
                exact h8)) rfl rfl rfl ?_
              refine gj_step (y_neq rfl rfl) rfl rfl rfl (?_)
              refine gj_nil ?_
              refine ej_th ?_
              refine cj_condF rfl (by decide) ?_
              refine cj_skip (ej_blk (ej_th ?_))
              refine cj_regionG (gj_step (y_move rfl) rfl rfl rfl (gj_step (y_add rfl rfl (by omega)) rfl rfl rfl (gj_step (y_assign rfl) rfl rfl rfl (gj_nil ?_))))
              exact ej_nx (i + 1) (by omega) (by omega) ⟨rfl, rfl, rfl, rfl, rfl, rfl, rfl, rfl, rfl, trivial⟩
            · have h291b := h291
              try simp only [sxb] at h291
              refine cj_exit (ej_then_exit (ej_then_exit (ej_blk_hit (ej_th (cj_seq (cj_region ?_))))))
              refine oj_call (X := Nat × Nat × Nat × Nat × Nat) (fun z => .agg #[.slice (some ⟨z.1, 0, none⟩) 2 2, .slice (some ⟨z.2.1, 0, none⟩) 3 3]) (fun _ => []) (fun z => [litS z.1 1 enInt resX, litS z.2.1 1 encLs (rowsX z.2.2.1 z.2.2.2.1 z.2.2.2.2), litS z.2.2.1 1 enInt [10, 6], litS z.2.2.2.1 1 enInt [8, 7], litS z.2.2.2.2 1 enInt [5, 0]]) Try.call46 rfl (fun w hp => k_closingX w) rfl ?_
              rintro ⟨r301, v301, x301, y301, z301⟩
              dsimp only [List.nil_append, List.cons_append]
              refine oj_buildSlice (cs := [.int .i64 1, .int .i64 (-1), .int .i64 (-1)]) [.int .i64 0, .int .i64 0, .int .i64 0] Try.underlying43 Try.sizeOf3 Try.zeroValue3 rfl rfl (by kernel_rfl) (by kernel_rfl) rfl (fun b302 => ?_)
              refine oj_step (y_call Try.call38 rfl (fun w hp => e_w1 r301 v301 x301 y301 z301 w hp.rd hp.rd (fun q hq => by
                simp only [List.mem_cons, List.mem_nil_iff, or_false] at hq
                rcases hq with rfl | rfl | rfl
                · exact hp.rd
                · exact hp.rd
                · exact hp.rd) b302 (hp.rdLit (b := b302) (sz := 1) (enc := enInt) [1, -1, -1] (fun _ => rfl) rfl (by unfold maxLen; decide)))) rfl rfl rfl ?_
              refine oj_step (y_move rfl) rfl rfl rfl ?_
              refine oj_step (y_extract rfl rfl) rfl rfl rfl ?_
              refine oj_step (y_extract rfl rfl) rfl rfl rfl ?_
              refine oj_step (y_assign rfl) rfl rfl rfl ?_
              refine oj_step (y_assign rfl) rfl rfl rfl ?_
              refine oj_nil ?_
              refine ej_th (cj_seq (cj_region ?_))
              refine oj_call (X := Nat × Nat × Nat × Nat × Nat) (fun z => .agg #[.slice (some ⟨z.1, 0, none⟩) 2 2, .slice (some ⟨z.2.1, 0, none⟩) 3 3]) (fun _ => []) (fun z => [litS z.1 1 enInt resX, litS z.2.1 1 encLs (rowsX z.2.2.1 z.2.2.2.1 z.2.2.2.2), litS z.2.2.1 1 enInt [10, 6], litS z.2.2.2.1 1 enInt [8, 7], litS z.2.2.2.2 1 enInt [5, 0]]) Try.call46 rfl (fun w hp => k_closingX w) rfl ?_
              rintro ⟨r307, v307, x307, y307, z307⟩
              dsimp only [List.nil_append, List.cons_append]
              refine oj_buildSlice (cs := [.int .i64 1, .int .i64 1, .int .i64 (-1)]) [.int .i64 0, .int .i64 0, .int .i64 0] Try.underlying43 Try.sizeOf3 Try.zeroValue3 rfl rfl (by kernel_rfl) (by kernel_rfl) rfl (fun b308 => ?_)
              refine oj_step (y_call Try.call38 rfl (fun w hp => e_w2 r307 v307 x307 y307 z307 w hp.rd hp.rd (fun q hq => by
                simp only [List.mem_cons, List.mem_nil_iff, or_false] at hq
                rcases hq with rfl | rfl | rfl
                · exact hp.rd
                · exact hp.rd
                · exact hp.rd) b308 (hp.rdLit (b := b308) (sz := 1) (enc := enInt) [1, 1, -1] (fun _ => rfl) rfl (by unfold maxLen; decide)))) rfl rfl rfl ?_
              refine oj_step (y_move rfl) rfl rfl rfl ?_
              refine oj_step (y_extract rfl rfl) rfl rfl rfl ?_
              refine oj_step (y_extract rfl rfl) rfl rfl rfl ?_
              refine oj_step (y_assign rfl) rfl rfl rfl ?_
              refine oj_nil ?_
              refine ej_th (cj_seq (cj_region ?_))
              refine oj_call (X := Nat × Nat × Nat × Nat × Nat) (fun z => .agg #[.slice (some ⟨z.1, 0, none⟩) 2 2, .slice (some ⟨z.2.1, 0, none⟩) 3 3]) (fun _ => []) (fun z => [litS z.1 1 enInt resX, litS z.2.1 1 encLs (rowsX z.2.2.1 z.2.2.2.1 z.2.2.2.2), litS z.2.2.1 1 enInt [10, 6], litS z.2.2.2.1 1 enInt [8, 7], litS z.2.2.2.2 1 enInt [5, 0]]) Try.call46 rfl (fun w hp => k_closingX w) rfl ?_
              rintro ⟨r313, v313, x313, y313, z313⟩
              dsimp only [List.nil_append, List.cons_append]
              refine oj_buildSlice (cs := [.int .i64 0, .int .i64 1]) [.int .i64 0, .int .i64 0] Try.underlying43 Try.sizeOf3 Try.zeroValue3 rfl rfl (by kernel_rfl) (by kernel_rfl) rfl (fun b314 => ?_)
              refine oj_step (y_call Try.call38 rfl (fun w hp => e_w3 r313 v313 x313 y313 z313 w hp.rd hp.rd (fun q hq => by
                simp only [List.mem_cons, List.mem_nil_iff, or_false] at hq
                rcases hq with rfl | rfl | rfl
                · exact hp.rd
                · exact hp.rd
                · exact hp.rd) b314 (hp.rdLit (b := b314) (sz := 1) (enc := enInt) [0, 1] (fun _ => rfl) rfl (by unfold maxLen; decide)))) rfl rfl rfl ?_
              refine oj_step (y_move rfl) rfl rfl rfl ?_
              refine oj_step (y_extract rfl rfl) rfl rfl rfl ?_
              refine oj_step (y_extract rfl rfl) rfl rfl rfl ?_
              refine oj_step (y_assign rfl) rfl rfl rfl ?_
              refine oj_nil ?_
              refine ej_th (cj_seq (cj_region ?_))
              refine oj_call (X := Nat × Nat × Nat × Nat × Nat) (fun z => .agg #[.slice (some ⟨z.1, 0, none⟩) 2 2, .slice (some ⟨z.2.1, 0, none⟩) 3 3]) (fun _ => []) (fun z => [litS z.1 1 enInt resX, litS z.2.1 1 encLs (rowsX z.2.2.1 z.2.2.2.1 z.2.2.2.2), litS z.2.2.1 1 enInt [10, 6], litS z.2.2.2.1 1 enInt [8, 7], litS z.2.2.2.2 1 enInt [5, 0]]) Try.call46 rfl (fun w hp => k_closingX w) rfl ?_
              rintro ⟨r319, v319, x319, y319, z319⟩
              dsimp only [List.nil_append, List.cons_append]
              refine oj_buildSlice (cs := [.int .i64 0, .int .i64 1, .int .i64 (-1)]) [.int .i64 0, .int .i64 0, .int .i64 0] Try.underlying43 Try.sizeOf3 Try.zeroValue3 rfl rfl (by kernel_rfl) (by kernel_rfl) rfl (fun b320 => ?_)
              refine oj_buildSlice (cs := [.int .i64 5, .int .i64 0]) [.int .i64 0, .int .i64 0] Try.underlying43 Try.sizeOf3 Try.zeroValue3 rfl rfl (by kernel_rfl) (by kernel_rfl) rfl (fun b321 => ?_)
              refine oj_step (y_build (cs := [.slice (some ⟨b320, 0, none⟩) 3 3, .slice (some ⟨b321, 0, none⟩) 2 2]) st62 rfl (by kernel_rfl)) rfl rfl rfl ?_
              refine oj_step (y_call Try.call44 rfl (fun w hp => e_f1 r319 v319 x319 y319 z319 w hp.rd hp.rd (fun q hq => by
                simp only [List.mem_cons, List.mem_nil_iff, or_false] at hq
                rcases hq with rfl | rfl | rfl
                · exact hp.rd
                · exact hp.rd
                · exact hp.rd) b320 b321 (hp.rdLit (b := b320) (sz := 1) (enc := enInt) [0, 1, -1] (fun _ => rfl) rfl (by unfold maxLen; decide)) (hp.rdLit (b := b321) (sz := 1) (enc := enInt) [5, 0] (fun _ => rfl) rfl (by unfold maxLen; decide)))) rfl rfl rfl ?_
              refine oj_step (y_move rfl) rfl rfl rfl ?_
              refine oj_step (y_extract rfl rfl) rfl rfl rfl ?_
              refine oj_step (y_extract rfl rfl) rfl rfl rfl ?_
              refine oj_step (y_assign rfl) rfl rfl rfl ?_
              refine oj_step (y_assign rfl) rfl rfl rfl ?_
              refine oj_nil ?_
              refine ej_th (cj_seq (cj_region ?_))
              refine oj_call (X := Nat × Nat × Nat × Nat × Nat) (fun z => .agg #[.slice (some ⟨z.1, 0, none⟩) 2 2, .slice (some ⟨z.2.1, 0, none⟩) 3 3]) (fun _ => []) (fun z => [litS z.1 1 enInt resX, litS z.2.1 1 encLs (rowsX z.2.2.1 z.2.2.2.1 z.2.2.2.2), litS z.2.2.1 1 enInt [10, 6], litS z.2.2.2.1 1 enInt [8, 7], litS z.2.2.2.2 1 enInt [5, 0]]) Try.call46 rfl (fun w hp => k_closingX w) rfl ?_
              rintro ⟨r327, v327, x327, y327, z327⟩
              dsimp only [List.nil_append, List.cons_append]
              refine oj_buildSlice (cs := [.int .i64 0, .int .i64 1, .int .i64 (-1)]) [.int .i64 0, .int .i64 0, .int .i64 0] Try.underlying43 Try.sizeOf3 Try.zeroValue3 rfl rfl (by kernel_rfl) (by kernel_rfl) rfl (fun b328 => ?_)
              refine oj_buildSlice (cs := [.int .i64 6, .int .i64 2]) [.int .i64 0, .int .i64 0] Try.underlying43 Try.sizeOf3 Try.zeroValue3 rfl rfl (by kernel_rfl) (by kernel_rfl) rfl (fun b329 => ?_)
              refine oj_step (y_build (cs := [.slice (some ⟨b328, 0, none⟩) 3 3, .slice (some ⟨b329, 0, none⟩) 2 2]) st62 rfl (by kernel_rfl)) rfl rfl rfl ?_
              refine oj_step (y_call Try.call44 rfl (fun w hp => e_f2 r327 v327 x327 y327 z327 w hp.rd hp.rd (fun q hq => by
                simp only [List.mem_cons, List.mem_nil_iff, or_false] at hq
                rcases hq with rfl | rfl | rfl
                · exact hp.rd
                · exact hp.rd
                · exact hp.rd) b328 b329 (hp.rdLit (b := b328) (sz := 1) (enc := enInt) [0, 1, -1] (fun _ => rfl) rfl (by unfold maxLen; decide)) (hp.rdLit (b := b329) (sz := 1) (enc := enInt) [6, 2] (fun _ => rfl) rfl (by unfold maxLen; decide)))) rfl rfl rfl ?_
              refine oj_step (y_move rfl) rfl rfl rfl ?_
              refine oj_step (y_extract rfl rfl) rfl rfl rfl ?_
              refine oj_step (y_extract rfl rfl) rfl rfl rfl ?_
              refine oj_step (y_assign rfl) rfl rfl rfl ?_
              refine oj_step (y_assign rfl) rfl rfl rfl ?_
              refine oj_nil ?_
              refine ej_th (cj_seq (cj_region ?_))
              refine oj_call (X := Nat × Nat × Nat × Nat × Nat) (fun z => .agg #[.slice (some ⟨z.1, 0, none⟩) 2 2, .slice (some ⟨z.2.1, 0, none⟩) 3 3]) (fun _ => []) (fun z => [litS z.1 1 enInt resX, litS z.2.1 1 encLs (rowsX z.2.2.1 z.2.2.2.1 z.2.2.2.2), litS z.2.2.1 1 enInt [10, 6], litS z.2.2.2.1 1 enInt [8, 7], litS z.2.2.2.2 1 enInt [5, 0]]) Try.call46 rfl (fun w hp => k_closingX w) rfl ?_
              rintro ⟨r335, v335, x335, y335, z335⟩
              dsimp only [List.nil_append, List.cons_append]
              refine oj_buildSlice (cs := [.int .i64 0, .int .i64 1, .int .i64 (-1)]) [.int .i64 0, .int .i64 0, .int .i64 0] Try.underlying43 Try.sizeOf3 Try.zeroValue3 rfl rfl (by kernel_rfl) (by kernel_rfl) rfl (fun b336 => ?_)
              refine oj_buildSlice (cs := [.int .i64 6]) [.int .i64 0] Try.underlying43 Try.sizeOf3 Try.zeroValue3 rfl rfl (by kernel_rfl) (by kernel_rfl) rfl (fun b337 => ?_)
              refine oj_step (y_build (cs := [.slice (some ⟨b336, 0, none⟩) 3 3, .slice (some ⟨b337, 0, none⟩) 1 1]) st62 rfl (by kernel_rfl)) rfl rfl rfl ?_
              refine oj_step (y_call Try.call44 rfl (fun w hp => e_f3 r335 v335 x335 y335 z335 w hp.rd hp.rd (fun q hq => by
                simp only [List.mem_cons, List.mem_nil_iff, or_false] at hq
                rcases hq with rfl | rfl | rfl
                · exact hp.rd
                · exact hp.rd
                · exact hp.rd) b336 b337 (hp.rdLit (b := b336) (sz := 1) (enc := enInt) [0, 1, -1] (fun _ => rfl) rfl (by unfold maxLen; decide)) (hp.rdLit (b := b337) (sz := 1) (enc := enInt) [6] (fun _ => rfl) rfl (by unfold maxLen; decide)))) rfl rfl rfl ?_
              refine oj_step (y_move rfl) rfl rfl rfl ?_
              refine oj_step (y_extract rfl rfl) rfl rfl rfl ?_
              refine oj_step (y_extract rfl rfl) rfl rfl rfl ?_
              refine oj_step (y_assign rfl) rfl rfl rfl ?_
              refine oj_nil ?_
              refine ej_th (cj_seq (cj_region ?_))
              refine oj_call (X := Nat × Nat × Nat × Nat × Nat) (fun z => .agg #[.slice (some ⟨z.1, 0, none⟩) 2 2, .slice (some ⟨z.2.1, 0, none⟩) 3 3]) (fun _ => []) (fun z => [litS z.1 1 enInt resX, litS z.2.1 1 encLs (rowsX z.2.2.1 z.2.2.2.1 z.2.2.2.2), litS z.2.2.1 1 enInt [10, 6], litS z.2.2.2.1 1 enInt [8, 7], litS z.2.2.2.2 1 enInt [5, 0]]) Try.call46 rfl (fun w hp => k_closingX w) rfl ?_
              rintro ⟨r343, v343, x343, y343, z343⟩
              dsimp only [List.nil_append, List.cons_append]
              refine oj_buildSlice (cs := [.int .i64 (-1), .int .i64 (-1), .int .i64 (-1)]) [.int .i64 0, .int .i64 0, .int .i64 0] Try.underlying43 Try.sizeOf3 Try.zeroValue3 rfl rfl (by kernel_rfl) (by kernel_rfl) rfl (fun b344 => ?_)
              refine oj_buildSlice (cs := [.int .i64 100, .int .i64 100]) [.int .i64 0, .int .i64 0] Try.underlying43 Try.sizeOf3 Try.zeroValue3 rfl rfl (by kernel_rfl) (by kernel_rfl) rfl (fun b345 => ?_)
              refine oj_step (y_build (cs := [.slice (some ⟨b344, 0, none⟩) 3 3, .slice (some ⟨b345, 0, none⟩) 2 2]) st62 rfl (by kernel_rfl)) rfl rfl rfl ?_
              refine oj_step (y_call Try.call44 rfl (fun w hp => e_f4 r343 v343 x343 y343 z343 w hp.rd hp.rd (fun q hq => by
                simp only [List.mem_cons, List.mem_nil_iff, or_false] at hq
                rcases hq with rfl | rfl | rfl
                · exact hp.rd
                · exact hp.rd
                · exact hp.rd) b344 b345 (hp.rdLit (b := b344) (sz := 1) (enc := enInt) [-1, -1, -1] (fun _ => rfl) rfl (by unfold maxLen; decide)) (hp.rdLit (b := b345) (sz := 1) (enc := enInt) [100, 100] (fun _ => rfl) rfl (by unfold maxLen; decide)))) rfl rfl rfl ?_
              refine oj_step (y_move rfl) rfl rfl rfl ?_
              refine oj_step (y_extract rfl rfl) rfl rfl rfl ?_
              refine oj_step (y_extract rfl rfl) rfl rfl rfl ?_
              refine oj_step (y_assign rfl) rfl rfl rfl ?_
              refine oj_step (y_assign rfl) rfl rfl rfl ?_
              refine oj_nil ?_
              refine ej_th ?_
              refine cj_cuti (X := Unit) [(8, _), (4, _), (6, _), (10, _)] ⟨rfl, rfl, rfl, rfl, trivial⟩ (fun _ => True) (fun _ => []) (fun _ => []) (fun _ => []) ?_ ?_
              · refine cj_seq ?_
                refine cj_regionG (gj_step (y_move rfl) rfl rfl rfl (gj_step (y_neq rfl rfl) rfl rfl rfl (gj_step (y_move rfl) rfl rfl rfl (gj_g 2 352 354 rfl rfl rfl rfl (fun hg352 => gj_yes rfl rfl rfl (y_move rfl) rfl rfl (gj_yes rfl rfl rfl (y_neq rfl rfl) rfl rfl (gj_nil rfl))) (gj_step (y_or rfl rfl rfl) rfl rfl rfl (gj_step (y_move rfl) rfl rfl rfl (gj_g 2 356 358 rfl rfl rfl rfl (fun hg356 => gj_yes rfl rfl rfl (y_move rfl) rfl rfl (gj_yes rfl rfl rfl (y_neq rfl rfl) rfl rfl (gj_nil rfl))) (gj_step (y_or rfl rfl rfl) rfl rfl rfl (gj_step (y_move rfl) rfl rfl rfl (gj_g 2 360 362 rfl rfl rfl rfl (fun hg360 => gj_yes rfl rfl rfl (y_move rfl) rfl rfl (gj_yes rfl rfl rfl (y_neq rfl rfl) rfl rfl (gj_nil rfl))) (gj_step (y_or rfl rfl rfl) rfl rfl rfl (gj_step (y_move rfl) rfl rfl rfl (gj_g 2 364 366 rfl rfl rfl rfl (fun hg364 => gj_yes rfl rfl rfl (y_move rfl) rfl rfl (gj_yes rfl rfl rfl (y_neq rfl rfl) rfl rfl (gj_nil rfl))) (gj_step (y_or rfl rfl rfl) rfl rfl rfl (gj_step (y_move rfl) rfl rfl rfl (gj_g 1 368 369 rfl rfl rfl rfl (fun hg368 => gj_yes rfl rfl rfl (y_move rfl) rfl rfl (gj_nil rfl)) (gj_step (y_or rfl rfl rfl) rfl rfl rfl (gj_step (y_move rfl) rfl rfl rfl (gj_g 2 371 373 rfl rfl rfl rfl (fun hg371 => gj_yes rfl rfl rfl (y_move rfl) rfl rfl (gj_yes rfl rfl rfl (y_neq rfl rfl) rfl rfl (gj_nil rfl))) (gj_step (y_or rfl rfl rfl) rfl rfl rfl (gj_step (y_move rfl) rfl rfl rfl (gj_g 2 375 377 rfl rfl rfl rfl (fun hg375 => gj_yes rfl rfl rfl (y_move rfl) rfl rfl (gj_yes rfl rfl rfl (y_not rfl) rfl rfl (gj_nil rfl))) (gj_step (y_or rfl rfl rfl) rfl rfl rfl (gj_step (y_move rfl) rfl rfl rfl (gj_g 2 379 381 rfl rfl rfl rfl (fun hg379 => gj_yes rfl rfl rfl (y_move rfl) rfl rfl (gj_yes rfl rfl rfl (y_neq rfl rfl) rfl rfl (gj_nil rfl))) (gj_step (y_or rfl rfl rfl) rfl rfl rfl (gj_step (y_move rfl) rfl rfl rfl (gj_g 2 383 385 rfl rfl rfl rfl (fun hg383 => gj_yes rfl rfl rfl (y_move rfl) rfl rfl (gj_yes rfl rfl rfl (y_neq rfl rfl) rfl rfl (gj_nil rfl))) (gj_step (y_or rfl rfl rfl) rfl rfl rfl (gj_step (y_move rfl) rfl rfl rfl (gj_g 1 387 388 rfl rfl rfl rfl (fun hg387 => gj_yes rfl rfl rfl (y_move rfl) rfl rfl (gj_nil rfl)) (gj_step (y_or rfl rfl rfl) rfl rfl rfl (gj_nil ?_)))))))))))))))))))))))))))))))))
                refine ej_th ?_
                refine cj_condF rfl (by decide) ?_
                refine cj_skip ?_
                exact ej_ct () trivial ⟨rfl, rfl, rfl, rfl, trivial⟩
              · rintro - -
                dsimp only [List.cons_append, List.nil_append]
                refine cj_seq (cj_region ?_)
                refine oj_buildSlice (cs := [.int .i64 7, .int .i64 3]) [.int .i64 0, .int .i64 0] Try.underlying43 Try.sizeOf3 Try.zeroValue3 rfl rfl (by kernel_rfl) (by kernel_rfl) rfl (fun b391 => ?_)
                refine oj_buildSlice (cs := [.int .i64 6, .int .i64 9]) [.int .i64 0, .int .i64 0] Try.underlying43 Try.sizeOf3 Try.zeroValue3 rfl rfl (by kernel_rfl) (by kernel_rfl) rfl (fun b392 => ?_)
                refine oj_buildSlice (cs := [.slice (some ⟨b392, 0, none⟩) 2 2]) [.slice none 0 0] Try.underlying58 Try.sizeOf43 Try.zeroValue43 rfl rfl (by kernel_rfl) (by kernel_rfl) rfl (fun b393 => ?_)
                refine oj_step (y_build (cs := [.slice (some ⟨b391, 0, none⟩) 2 2, .slice (some ⟨b393, 0, none⟩) 1 1]) st60 rfl (by kernel_rfl)) rfl rfl rfl ?_
                refine oj_callS (fun A c => .tuple #[.slice A ([7, 3] : List Int).length c, .int .i64 0]) 1 enInt ([7, 3] : List Int) Try.call34 rfl (fun w hp => e_p1 b391 b393 b392 w (hp.rdLit (b := b391) (sz := 1) (enc := enInt) [7, 3] (fun _ => rfl) rfl (by unfold maxLen; decide)) (hp.rdLit (b := b393) (sz := 1) (enc := encLs) [⟨some ⟨b392, 0, none⟩, 2, [6, 9]⟩] (fun _ => rfl) rfl (by unfold maxLen; simp)) (fun q hq => by
                  rw [List.mem_singleton.1 hq]
                  exact hp.rdLit (b := b392) (sz := 1) (enc := enInt) [6, 9] (fun _ => rfl) rfl (by unfold maxLen; decide))) rfl (fun A395 c395 fp395 hfp395 => ?_)
                refine oj_step (y_move rfl) rfl rfl rfl ?_
                refine oj_step (y_extract rfl rfl) rfl rfl rfl ?_
                refine oj_step (y_extract rfl rfl) rfl rfl rfl ?_
                refine oj_step (y_assign rfl) rfl rfl rfl ?_
                refine oj_step (y_assign rfl) rfl rfl rfl ?_
                refine oj_nil ?_
                refine ej_th (cj_seq (cj_region ?_))
                refine oj_buildSlice (cs := [.int .i64 256]) [.int .i64 0] Try.underlying43 Try.sizeOf3 Try.zeroValue3 rfl rfl (by kernel_rfl) (by kernel_rfl) rfl (fun b399 => ?_)
                refine oj_callS (fun A c => .tuple #[.slice A ([] : List Int).length c, .int .i64 64]) 1 enInt ([] : List Int) Try.call26 rfl (fun w hp => e_g1 b399 w (hp.rdLit (b := b399) (sz := 1) (enc := enInt) [256] (fun _ => rfl) rfl (by unfold maxLen; decide))) rfl (fun A400 c400 fp400 hfp400 => ?_)
                refine oj_step (y_move rfl) rfl rfl rfl ?_
                refine oj_step (y_extract rfl rfl) rfl rfl rfl ?_
                refine oj_step (y_extract rfl rfl) rfl rfl rfl ?_
                refine oj_step (y_assign rfl) rfl rfl rfl ?_
                refine oj_nil ?_
                refine ej_th (cj_seq (cj_region ?_))
                refine oj_callS (fun A c => .tuple #[.slice A ([] : List Int).length c, .int .i64 7]) 1 enInt ([] : List Int) Try.call26 rfl (fun w hp => e_g2 w Rd.nil) rfl (fun A404 c404 fp404 hfp404 => ?_)
                refine oj_step (y_move rfl) rfl rfl rfl ?_
                refine oj_step (y_extract rfl rfl) rfl rfl rfl ?_
                refine oj_step (y_extract rfl rfl) rfl rfl rfl ?_
                refine oj_step (y_assign rfl) rfl rfl rfl ?_
                refine oj_nil ?_
                refine ej_th (cj_seq (cj_region ?_))
                refine oj_buildSlice (cs := [.int .i64 1, .int .i64 1, .int .i64 3]) [.int .i64 0, .int .i64 0, .int .i64 0] Try.underlying43 Try.sizeOf3 Try.zeroValue3 rfl rfl (by kernel_rfl) (by kernel_rfl) rfl (fun b408 => ?_)
                refine oj_callS (fun A c => .tuple #[.slice A ([] : List Int).length c, .int .i64 0]) 1 enInt ([] : List Int) Try.call26 rfl (fun w hp => e_g3 b408 w (hp.rdLit (b := b408) (sz := 1) (enc := enInt) [1, 1, 3] (fun _ => rfl) rfl (by unfold maxLen; decide))) rfl (fun A409 c409 fp409 hfp409 => ?_)
                refine oj_step (y_move rfl) rfl rfl rfl ?_
                refine oj_step (y_extract rfl rfl) rfl rfl rfl ?_
                refine oj_step (y_extract rfl rfl) rfl rfl rfl ?_
                refine oj_step (y_assign rfl) rfl rfl rfl ?_
                refine oj_step (y_assign rfl) rfl rfl rfl ?_
                refine oj_nil ?_
                refine ej_th (cj_seq (cj_region ?_))
                refine oj_step (y_move rfl) rfl rfl rfl ?_
                refine oj_step (y_eql rfl rfl) rfl rfl rfl ?_
                refine oj_step (y_move rfl) rfl rfl rfl ?_
                refine oj_yes rfl rfl rfl ?_
                refine oj_step (y_move rfl) rfl rfl rfl ?_
                refine oj_yes rfl rfl rfl ?_
                refine oj_buildSlice (cs := [.int .i64 7, .int .i64 3]) [.int .i64 0, .int .i64 0] Try.underlying43 Try.sizeOf3 Try.zeroValue3 rfl rfl (by kernel_rfl) (by kernel_rfl) rfl (fun b416 => ?_)
                refine oj_yes rfl rfl rfl ?_
                refine oj_step (y_call Try.call28 rfl (fun w hp => k_Same [7, 3] [7, 3] A395 (some ⟨b416, 0, none⟩) c395 2 w hp.rd (hp.rdLit (b := b416) (sz := 1) (enc := enInt) [7, 3] (fun _ => rfl) rfl (by unfold maxLen; decide)))) rfl rfl rfl ?_
                refine oj_step (y_pick rfl rfl rfl) rfl rfl rfl ?_
                refine oj_step (y_move rfl) rfl rfl rfl ?_
                refine oj_yes rfl rfl rfl ?_
                refine oj_step (y_move rfl) rfl rfl rfl ?_
                refine oj_yes rfl rfl rfl ?_
                refine oj_step (y_eql rfl rfl) rfl rfl rfl ?_
                refine oj_step (y_pick rfl rfl rfl) rfl rfl rfl ?_
                refine oj_step (y_move rfl) rfl rfl rfl ?_
                refine oj_yes rfl rfl rfl ?_
                refine oj_step (y_move rfl) rfl rfl rfl ?_
                refine oj_yes rfl rfl rfl ?_
                refine oj_step (y_eql rfl rfl) rfl rfl rfl ?_
                refine oj_step (y_pick rfl rfl rfl) rfl rfl rfl ?_
                refine oj_step (y_move rfl) rfl rfl rfl ?_
                refine oj_yes rfl rfl rfl ?_
                refine oj_step (y_move rfl) rfl rfl rfl ?_
                refine oj_yes rfl rfl rfl ?_
                refine oj_step (y_eql rfl rfl) rfl rfl rfl ?_
                refine oj_step (y_pick rfl rfl rfl) rfl rfl rfl ?_
                refine oj_step (y_move rfl) rfl rfl rfl ?_
                refine oj_yes rfl rfl rfl ?_
                refine oj_step (y_move rfl) rfl rfl rfl ?_
                refine oj_yes rfl rfl rfl ?_
                refine oj_step (y_lenA Try.underlying43 rfl) rfl rfl rfl ?_
                refine oj_yes rfl rfl rfl ?_
                refine oj_step (y_eql rfl rfl) rfl rfl rfl ?_
                refine oj_step (y_pick rfl rfl rfl) rfl rfl rfl ?_
                refine oj_step (y_move rfl) rfl rfl rfl ?_
                refine oj_step (y_pick rfl rfl rfl) rfl rfl rfl ?_
                refine oj_step (y_move rfl) rfl rfl rfl ?_
                refine oj_yes rfl rfl rfl ?_
                refine oj_step (y_call Try.call21 rfl (fun w hp => k_works w)) rfl rfl rfl ?_
                refine oj_step (y_pick rfl rfl rfl) rfl rfl rfl ?_
                refine oj_step (y_assign rfl) rfl rfl rfl ?_
                refine oj_nil ?_
                refine ej_th (cj_ret ?_)
                exact ej_ret1 rfl Try.results14 rfl (fun w' hp => ⟨rfl, hp.below⟩)

end Go.Proofs.Ytehmifpofpifkaa
