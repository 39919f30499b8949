/- Texts of ours, joined: 7 of them. Conditions: none. -/
import Derived.Test.YtehmifpofpifkaaZj
import Derived.Test.YtehmifpofpifkaaProg
import Derived.Laws.StructEq
namespace Go.Proofs.Ytehmifpofpifkaa
open Go Go.Sx Go.RowKit Am

theorem gD {l : List Int} {i : Nat} (h : i < l.length) : l[i]? = some (l.getD i 0) := by rw [List.getD_eq_getElem?_getD, List.getElem?_eq_getElem h]; rfl
theorem sig_gain {rows : List (List Int)} {ps res to : List Int} {i : Nat} (h : i < to.length) : gt (fun i j => wv res rows i j - (ps.getD j 0 - res.getD j 0)) i (sig to i) = gainF rows ps i (to.getD i 0) := by
  have hx := gD h
  unfold sig gainF
  rw [hx]
  by_cases h0 : 0 ≤ to.getD i 0
  · simp only [if_pos h0, gt]
    unfold wv rv
    omega
  · simp only [if_neg h0, gt]
theorem fairB_iff {res : List Int} {rows : List (List Int)} {ps to : List Int} (hok : OkL res.length to) (htl : to.length = rows.length) :
    fairB res rows ps to = true ↔ FairA rows.length res.length (wv res rows) (sig to) (fun k => ps.getD k 0 - res.getD k 0) := by
  have hv := sig_val hok
  rw [htl] at hv
  unfold fairB
  rw [Bool.and_eq_true, allN_iff, allN_iff]
  have h1 : ∀ k, k < res.length → (f1 res ps to k = true ↔ (0 ≤ ps.getD k 0 - res.getD k 0) ∧ ((∀ i, i < rows.length → sig to i ≠ some k) → ps.getD k 0 - res.getD k 0 = 0)) := fun k hk => by
    unfold f1
    rw [Bool.not_eq_true', Bool.or_eq_false_iff, decide_eq_false_iff_not, Bool.and_eq_false_iff, decide_eq_false_iff_not, Bool.not_eq_false']
    rw [sold_iff, htl]
    constructor
    · rintro ⟨a, b⟩
      refine ⟨by omega, fun hn => ?_⟩
      rcases b with b | ⟨i, hi, e⟩
      · omega
      · exact absurd e (hn i hi)
    · rintro ⟨a, b⟩
      refine ⟨by omega, ?_⟩
      by_cases hs : ∃ i, i < rows.length ∧ sig to i = some k
      · exact .inr hs
      · exact .inl (by have := b (fun i hi e => hs ⟨i, hi, e⟩); omega)
  have h2 : ∀ i, i < rows.length → (f2 res.length rows ps to i = true ↔ 0 ≤ gt (fun i j => wv res rows i j - (ps.getD j 0 - res.getD j 0)) i (sig to i) ∧ ∀ j, j < res.length → wv res rows i j - (ps.getD j 0 - res.getD j 0) ≤ gt (fun i j => wv res rows i j - (ps.getD j 0 - res.getD j 0)) i (sig to i)) := fun i hi => by
    rw [sig_gain (by omega)]
    unfold f2
    rw [Bool.and_eq_true, decide_eq_true_iff, allN_iff]
    have e : ∀ j, f2j rows ps i (gainF rows ps i (to.getD i 0)) j = true ↔ wv res rows i j - (ps.getD j 0 - res.getD j 0) ≤ gainF rows ps i (to.getD i 0) := fun j => by
      unfold f2j
      rw [decide_eq_true_iff]
      unfold wv rv
      omega
    constructor
    · rintro ⟨a, b⟩; exact ⟨a, fun j hj => (e j).1 (b j (Nat.zero_le _) (by omega))⟩
    · rintro ⟨a, b⟩; exact ⟨a, fun j _ hj => (e j).2 (b j (by omega))⟩
  constructor
  · rintro ⟨a, b⟩
    refine ⟨hv, fun j hj => ((h1 j hj).1 (a j (Nat.zero_le _) (by omega))).1, fun j hj hn => ((h1 j hj).1 (a j (Nat.zero_le _) (by omega))).2 hn, fun i j hi e => ?_, fun i j hi hj => ((h2 i hi).1 (b i (Nat.zero_le _) (by omega))).2 j hj⟩
    have h3 := ((h2 i hi).1 (b i (Nat.zero_le _) (by omega))).1
    rw [e] at h3
    simp only [gt] at h3
    omega
  · intro h
    refine ⟨fun k _ hk => (h1 k (by omega)).2 ⟨h.nn k (by omega), h.un k (by omega)⟩, fun i _ hi => (h2 i (by omega)).2 ⟨?_, fun j hj => h.ef i j (by omega) hj⟩⟩
    have := h.gain (i := i) (by omega)
    exact this
theorem prices_len (res : List Int) (rows : List (List Int)) : (pricesL res rows).length = res.length := by simp [pricesL]
theorem prices_get (res : List Int) (rows : List (List Int)) {k : Nat} (hk : k < res.length) : (pricesL res rows).getD k 0 = priceC res rows k := by
  rw [List.getD_eq_getElem?_getD, pricesL, List.getElem?_map, List.getElem?_range hk]; rfl
/-- what is known of a closing -/
structure CloF (res : List Int) (rows : List (List Int)) : Prop where
  ok : OkL res.length (bestF res rows).1
  len : (bestF res rows).1.length = rows.length
  fair : FairA rows.length res.length (wv res rows) (sig (bestF res rows).1) (fun k => (pricesL res rows).getD k 0 - res.getD k 0)
  max : IsMax rows.length res.length (wv res rows) ((bestF res rows).2 - sumR res)
  pr : ∀ k, k < res.length → IsMax rows.length (res.length + 1) (dup res.length k (wv res rows)) (priceC res rows k - rv res k + ((bestF res rows).2 - sumR res))
  wt : wt rows.length (wv res rows) (sig (bestF res rows).1) = (bestF res rows).2 - sumR res
theorem fairA_congr {n m : Nat} {w : Nat → Nat → Int} {σ : Nat → Option Nat} {q q' : Nat → Int} (h : FairA n m w σ q) (e : ∀ j, j < m → q j = q' j) : FairA n m w σ q' := by
  have hg : ∀ i, i < n → gt (fun i j => w i j - q j) i (σ i) = gt (fun i j => w i j - q' j) i (σ i) := fun i hi => by
    cases hs : σ i with
    | none => rfl
    | some j => simp only [gt]; rw [e j (h.val.lot i j hi hs)]
  exact ⟨h.val, fun j hj => e j hj ▸ h.nn j hj, fun j hj hn => e j hj ▸ h.un j hj hn, fun i j hi hs => e j (h.val.lot i j hi hs) ▸ h.ir i j hi hs, fun i j hi hj => by rw [← e j hj, ← hg i hi]; exact h.ef i j hi hj⟩
theorem cloF {res : List Int} {rows : List (List Int)} (h : CloOk res rows) : CloF res rows := by
  obtain ⟨a, b, c, d, e⟩ := best_spec h.nn.1 h.nn.2
  have hp := fun k => price_max h.nn.1 h.nn.2 h.len k
  have hv := sig_val a
  rw [b] at hv
  have hf := fair_least d (fun k _ => hp k) hv e
  refine ⟨a, b, fairA_congr hf fun j hj => ?_, d, fun k _ => hp k, e⟩
  rw [prices_get res rows hj]
  unfold rv
  omega
/-- a price lies between the reserve and what somebody would give -/
theorem price_bdV {res : List Int} {rows : List (List Int)} (h : CloOk res rows) {k : Nat} (hk : k < res.length) {V : Int} (h1 : res.getD k 0 ≤ V) (h2 : ∀ i, i < rows.length → vv rows i k ≤ V) : res.getD k 0 ≤ priceC res rows k ∧ priceC res rows k ≤ V := by
  have hf := cloF h
  have a := hf.fair.nn k hk
  rw [prices_get res rows hk] at a
  have b := price_le hf.max (hf.pr k hk) (V := V - rv res k) (by unfold rv; omega) (fun i hi => by
    have := h2 i hi
    unfold wv rv; omega)
  unfold rv at b
  omega
theorem price_100 {res : List Int} {rows : List (List Int)} (h : CloOk res rows) {k : Nat} (hk : k < res.length) : 0 ≤ priceC res rows k ∧ priceC res rows k ≤ 100000 := by
  have hr := h.res _ (getD_mem (l := res) (d := 0) hk)
  have := price_bdV h hk (V := 100000) hr.2 (fun i hi => by
    unfold vv
    have h1 : rows[i]? = some (rows.getD i []) := by rw [List.getD_eq_getElem?_getD, List.getElem?_eq_getElem hi]; rfl
    have h2 := List.mem_of_getElem? h1
    have h3 := h.len _ h2
    exact (h.val _ h2 _ (getD_mem (by omega))).2)
  omega
theorem okF_of {m n : Nat} {to : List Int} (h : OkL m to) (hl : to.length = n) : fitsB m n to = true := by
  unfold fitsB
  rw [(okF_ok m to).2 h, decide_eq_true (by omega)]; rfl
theorem awB_clo {res : List Int} {vs : List ListV} (h : cloB res vs = true) : awB res vs (bestF res (rowsV vs)).1 (pricesL res (rowsV vs)) = true := by
  obtain ⟨hco, _, _⟩ := clo_ok h
  have hf := cloF hco
  unfold awB
  rw [okF_of hf.ok (by rw [hf.len, rowsV_len]), Bool.true_and, Bool.and_eq_true, beq_iff_eq, prices_len, List.all_eq_true]
  refine ⟨rfl, fun p hp => ?_⟩
  obtain ⟨k, hk, rfl⟩ := List.mem_map.1 hp
  exact btw_t.2 (price_100 hco (by simpa using hk))
/-- the award of Close is fair -/
theorem fair_clo {res : List Int} {vs : List ListV} (h : cloB res vs = true) : FairV res vs (CloA res vs).1 (CloA res vs).2 = true ∧ FairE res vs (CloA res vs).1 (CloA res vs).2 = 0 := by
  obtain ⟨hco, _, _⟩ := clo_ok h
  have hf := cloF hco
  obtain ⟨e, _⟩ := cloA_yes h
  rw [e]
  obtain ⟨e1, e2⟩ := fair_yes h (awB_clo h)
  refine ⟨?_, e2⟩
  rw [e1, fairB_iff hf.ok hf.len]
  exact hf.fair
theorem cloE_iff {res : List Int} {vs : List ListV} : cloE res vs = 0 ↔ cloB res vs = true := by
  unfold cloE
  split <;> simp_all
theorem fairE_ne {res : List Int} {vs : List ListV} {to ps : List Int} (h : cloB res vs = true) : FairE res vs to ps = 0 ∨ FairE res vs to ps = 63 := by
  unfold FairE
  rw [if_pos h]
  split
  · exact .inl rfl
  · exact .inr rfl
theorem fair_true {res : List Int} {vs : List ListV} {to ps : List Int} (h2 : FairV res vs to ps = true) : ps.length = res.length ∧ FairA (rowsV vs).length res.length (wv res (rowsV vs)) (sig to) (fun k => ps.getD k 0 - res.getD k 0) := by
  unfold FairV at h2
  rw [Bool.and_eq_true, Bool.and_eq_true] at h2
  obtain ⟨⟨hok, htl⟩, hpl, _⟩ := aw_ok h2.1.2
  exact ⟨hpl, (fairB_iff hok (by rw [htl, rowsV_len])).1 h2.2⟩
/-- no fair award has a lesser price -/
theorem least_price {res : List Int} {vs : List ListV} {to ps : List Int} (h : cloB res vs = true) (h2 : FairV res vs to ps = true) {k : Nat} (hk : k < res.length) : priceC res (rowsV vs) k ≤ ps.getD k 0 := by
  obtain ⟨hco, _, _⟩ := clo_ok h
  have hf := cloF hco
  obtain ⟨_, hfa⟩ := fair_true h2
  have := hfa.least hf.max (hf.pr k hk) hk
  unfold rv at this
  omega
/-- the award of Close is worth most -/
theorem most_worth {res : List Int} {vs : List ListV} {to : List Int} (h : cloB res vs = true) (h2 : WorE res vs to = 0) : WorV res vs to ≤ WorV res vs (CloA res vs).1 := by
  obtain ⟨hco, _, _⟩ := clo_ok h
  have hf := cloF hco
  have hy : fitsB res.length vs.length to = true := by
    unfold WorE at h2
    rw [if_pos h] at h2
    split at h2
    · assumption
    · cases h2
  obtain ⟨hok, htl⟩ := fits_ok hy
  obtain ⟨e, _⟩ := cloA_yes h
  rw [e]
  unfold WorV
  rw [if_pos ⟨h, hy⟩, if_pos ⟨h, okF_of hf.ok (by rw [hf.len, rowsV_len])⟩, worthP_eq hok, worthP_eq hf.ok, hf.len, hf.wt, htl]
  have hv := sig_val hok
  rw [htl, ← rowsV_len vs] at hv
  have := hf.max.le _ hv
  rw [rowsV_len] at this
  omega
theorem worE_clo {res : List Int} {vs : List ListV} (h : cloB res vs = true) : WorE res vs (CloA res vs).1 = 0 := by
  obtain ⟨hco, _, _⟩ := clo_ok h
  have hf := cloF hco
  obtain ⟨e, _⟩ := cloA_yes h
  rw [e]
  unfold WorE
  rw [if_pos h, if_pos (okF_of hf.ok (by rw [hf.len, rowsV_len]))]
theorem encLs_len (x : ListV) : (encLs x).length = 1 := rfl
theorem cloE_or (res : List Int) (vs : List ListV) : cloE res vs = 0 ∨ cloE res vs = 62 := by
  unfold cloE
  split
  · exact .inl rfl
  · exact .inr rfl
/-! ### What a bidder gains -/
def gainE (vals to ps : List Int) (i : Nat) : Int × Bool :=
  if to.length ≤ i then (0, false) else if to.getD i 0 = -1 then (0, true) else
  if !(btw 0 (to.getD i 0) ((ps.length : Int) - 1)) || decide ((vals.length : Int) ≤ to.getD i 0) then (0, false) else (vals.getD (to.getD i 0).toNat 0 - ps.getD (to.getD i 0).toNat 0, true)
theorem row_get {rows : List (List Int)} {i : Nat} {l : List Int} (h : rows[i]? = some l) (j : Nat) : vv rows i j = l.getD j 0 := by
  unfold vv
  rw [List.getD_eq_getElem?_getD (l := rows), h]; rfl
theorem gainE_ok {rows : List (List Int)} {vals to ps : List Int} {i m : Nat} (hr : rows[i]? = some vals) (hl : vals.length = m) (hp : ps.length = m) (hok : OkL m to) (hi : i < to.length) : gainE vals to ps i = (gainF rows ps i (to.getD i 0), true) := by
  have hx := hok.rng _ (getD_mem (l := to) (d := 0) hi)
  unfold gainE gainF
  rw [if_neg (by omega)]
  by_cases h1 : to.getD i 0 = -1
  · rw [if_pos h1, h1]; rfl
  · have e1 : btw 0 (to.getD i 0) ((ps.length : Int) - 1) = true := btw_t.2 (by omega)
    rw [if_neg h1, e1, decide_eq_false (by omega), row_get hr]
    simp only [Bool.not_true, Bool.or_false, Bool.false_eq_true, if_false]
    rw [if_pos (by omega)]
theorem gt_congr {f g : Nat → Nat → Int} {i : Nat} {s : Option Nat} (h : ∀ j, s = some j → f i j = g i j) : gt f i s = gt g i s := by
  cases s with
  | none => rfl
  | some j => exact h j rfl
theorem clo_sig {res : List Int} {rows : List (List Int)} (h : CloOk res rows) {res2 : List Int} {rows2 : List (List Int)} {i : Nat} (hi : i < rows.length) {M : Int} (hr : res2 = res) (hM : M = (bestF res rows).2 - sumR res) :
    gt (fun i j => wv res2 rows2 i j - (priceC res rows j - rv res j + M - M)) i (sig (bestF res rows).1 i) = gainF rows2 (pricesL res rows) i ((bestF res rows).1.getD i 0) := by
  subst hr
  have hf := cloF h
  have hv := sig_val hf.ok
  rw [hf.len] at hv
  rw [← sig_gain (res := res2) (by rw [hf.len]; exact hi)]
  refine gt_congr fun j hj => ?_
  have := hv.lot i j hi hj
  rw [prices_get res2 rows this]
  unfold rv
  omega
/-- nobody gains by a lie -/
theorem truth_gain {res : List Int} {rows rows2 : List (List Int)} (h : CloOk res rows) (h2 : CloOk res rows2) (hl : rows2.length = rows.length) {i : Nat} (hi : i < rows.length) (hne : ∀ k, k ≠ i → rows2[k]? = rows[k]?) :
    gainF rows (pricesL res rows2) i ((bestF res rows2).1.getD i 0) ≤ gainF rows (pricesL res rows) i ((bestF res rows).1.getD i 0) := by
  have hf := cloF h
  have hf2 := cloF h2
  have hv := sig_val hf.ok
  have hv2 := sig_val hf2.ok
  rw [hf.len] at hv
  rw [hf2.len, hl] at hv2
  have hm2 := hf2.max
  have hp2 := hf2.pr
  have hw2 := hf2.wt
  rw [hl] at hm2 hp2 hw2
  have := truth (w := wv res rows) (w' := wv res rows2) hi (fun k _ hk j => by
    have e : rows2.getD k [] = rows.getD k [] := by rw [List.getD_eq_getElem?_getD, List.getD_eq_getElem?_getD, hne k hk]
    unfold wv vv; rw [e]) hf.max hf.pr hv hf.wt hm2 hp2 hv2 hw2
  rw [clo_sig h hi rfl rfl, clo_sig h2 (by rw [hl]; exact hi) rfl rfl] at this
  exact this
theorem gain_nn {res : List Int} {rows : List (List Int)} (h : CloOk res rows) {i : Nat} (hi : i < rows.length) : 0 ≤ gainF rows (pricesL res rows) i ((bestF res rows).1.getD i 0) := by
  have hf := cloF h
  have := hf.fair.gain hi
  rw [sig_gain (by rw [hf.len]; exact hi)] at this
  exact this
theorem gainF_bd {rows : List (List Int)} {ps : List Int} {i : Nat} {x : Int} (h1 : ∀ r ∈ rows, ∀ v ∈ r, 0 ≤ v ∧ v ≤ 100000) (h2 : ∀ p ∈ ps, 0 ≤ p ∧ p ≤ 100000) : -100000 ≤ gainF rows ps i x ∧ gainF rows ps i x ≤ 100000 := by
  have g0 : ∀ (l : List Int), (∀ v ∈ l, 0 ≤ v ∧ v ≤ 100000) → ∀ k, 0 ≤ l.getD k 0 ∧ l.getD k 0 ≤ 100000 := fun l hl k => by
    by_cases hk : k < l.length
    · exact hl _ (getD_mem hk)
    · rw [List.getD_eq_getElem?_getD, List.getElem?_eq_none (by omega)]; simp
  unfold gainF
  split
  · have a := g0 ps h2 x.toNat
    have b : 0 ≤ vv rows i x.toNat ∧ vv rows i x.toNat ≤ 100000 := by
      unfold vv
      by_cases hi : i < rows.length
      · have h3 : rows[i]? = some (rows.getD i []) := by rw [List.getD_eq_getElem?_getD, List.getElem?_eq_getElem hi]; rfl
        exact g0 _ (h1 _ (List.mem_of_getElem? h3)) _
      · rw [show rows.getD i [] = [] by rw [List.getD_eq_getElem?_getD, List.getElem?_eq_none (by omega)]; rfl]; simp
    omega
  · omega
theorem prices_bd {res : List Int} {rows : List (List Int)} (h : CloOk res rows) : ∀ p ∈ pricesL res rows, 0 ≤ p ∧ p ≤ 100000 := fun p hp => by
  obtain ⟨k, hk, rfl⟩ := List.mem_map.1 hp
  exact price_100 h (by simpa using hk)
/-! ### One more bidder, a greater reserve -/
theorem wide_price {res : List Int} {rows : List (List Int)} {l : List Int} (h : CloOk res rows) (h2 : CloOk res (rows ++ [l])) {k : Nat} (hk : k < res.length) : priceC res rows k ≤ priceC res (rows ++ [l]) k := by
  have hf := cloF h
  have hf2 := cloF h2
  have hl : (rows ++ [l]).length = rows.length + 1 := by simp
  have hm2 := hf2.max
  have hp2 := hf2.pr k hk
  rw [hl] at hm2 hp2
  have hw : ∀ i j, i < rows.length → wv res rows i j = wv res (rows ++ [l]) i j := fun i j hi => by
    have e : rows.getD i [] = (rows ++ [l]).getD i [] := by rw [List.getD_eq_getElem?_getD, List.getD_eq_getElem?_getD, List.getElem?_append_left hi]
    unfold wv vv; rw [e]
  have := more_bidder (hf.max.congr fun i j hi _ => hw i j hi) ((hf.pr k hk).congr fun i j hi _ => by unfold dup; exact hw i _ hi) hm2 hp2
  omega
theorem dear_price {res : List Int} {rows : List (List Int)} {c : Nat} {v : Int} (h : CloOk res rows) (h2 : CloOk (res.set c v) rows) (hc : c < res.length) (hv : res.getD c 0 ≤ v) {k : Nat} (hk : k < res.length) : priceC res rows k ≤ priceC (res.set c v) rows k := by
  have hf := cloF h
  have hf2 := cloF h2
  have hl : (res.set c v).length = res.length := by simp
  have hm2 := hf2.max
  have hp2 := hf2.pr k (by omega)
  rw [hl] at hm2 hp2
  have hg : ∀ j, (res.set c v).getD j 0 = res.getD j 0 + (if j = c then v - res.getD c 0 else 0) := fun j => by
    rw [List.getD_eq_getElem?_getD, List.getElem?_set]
    by_cases e : c = j
    · subst e; rw [if_pos rfl, if_pos hc, if_pos rfl]; simp only [Option.getD_some]; omega
    · rw [if_neg e, if_neg (fun e2 => e e2.symm), List.getD_eq_getElem?_getD]; omega
  have := more_reserve (c := c) (d := v - res.getD c 0) (w' := wv (res.set c v) rows) (by omega) (fun i j => by unfold wv rv; rw [hg j]; omega) hf.max (hf.pr k hk) hm2 hp2
  have e := hg k
  unfold rv at this
  rw [e] at this
  omega
theorem clo_set {res : List Int} {rows : List (List Int)} {c : Nat} {v : Int} (h : CloOk res rows) (hv : 0 ≤ v ∧ v ≤ 100000) : ∀ x ∈ res.set c v, 0 ≤ x ∧ x ≤ 100000 := fun x hx => by
  rcases List.mem_or_eq_of_mem_set hx with h1 | h1
  · exact h.res x h1
  · rw [h1]; exact hv
theorem cloB_set {res : List Int} {vs : List ListV} {c : Nat} {v : Int} (h : cloB res vs = true) (hv : 0 ≤ v ∧ v ≤ 100000) : cloB (res.set c v) vs = true := by
  obtain ⟨hco, _, _⟩ := clo_ok h
  unfold cloB at h ⊢
  rw [Bool.and_eq_true, Bool.and_eq_true, Bool.and_eq_true] at h ⊢
  rw [List.length_set]
  refine ⟨⟨⟨h.1.1.1, List.all_eq_true.2 fun x hx => btw_t.2 (clo_set hco hv x hx)⟩, h.1.2⟩, h.2⟩
def mostV (rows : List (List Int)) (j : Nat) : List (List Int) → Int → Int
  | [], b => b
  | r :: l, b => mostV rows j l (if j < r.length then max b (r.getD j 0) else b)
end Go.Proofs.Ytehmifpofpifkaa
namespace Go.Proofs.Ytehmifpofpifkaa
open Go Go.Sx Go.RowKit Am

/-! ### Rings -/
theorem pw_of : ∀ m : Fin 256, ∀ k : Fin 8, popc m.val ≤ 1 → m.val.testBit k.val = true → m.val = 2 ^ k.val := by decide +kernel
theorem pc_of : ∀ m : Fin 256, (∀ k : Fin 8, m.val.testBit k.val = true → m.val = 2 ^ k.val) → popc m.val ≤ 1 := by decide +kernel
theorem one_of {m k : Nat} (hm : m < 256) (hk : k < 8) (h : popc m ≤ 1) (hb : m.testBit k = true) : m = 2 ^ k := pw_of ⟨m, hm⟩ ⟨k, hk⟩ h hb
theorem one_to {m : Nat} (hm : m < 256) (h : ∀ k, k < 8 → m.testBit k = true → m = 2 ^ k) : popc m ≤ 1 := pc_of ⟨m, hm⟩ (fun k hb => h k.val k.isLt hb)
theorem and_lt {n s : Nat} (h : n < 256) : n &&& s < 256 := Nat.lt_of_le_of_lt Nat.and_le_left h
theorem ringE_0 {past : List Int} {few : Int} (h : ringE past few = 0) : pastB past = true ∧ btw 1 few 64 = true := by
  unfold ringE at h
  split at h
  · rename_i h1
    split at h
    · rename_i h2; exact ⟨h1, h2⟩
    · cases h
  · cases h
theorem ringS_mem {ns : List Nat} {fw s : Nat} : s ∈ ringS ns fw ↔ s < 256 ∧ topB (ringB ns fw) s = true := by
  unfold ringS
  rw [(List.mergeSort_perm _ _).mem_iff]
  exact topL_mem
theorem ringS_nd (ns : List Nat) (fw : Nat) : (ringS ns fw).Nodup := by
  unfold ringS
  rw [(List.mergeSort_perm _ _).nodup_iff]
  exact (List.nodup_range.filter _).filter _
theorem ringS_ring {ns : List Nat} {fw s : Nat} (h : s ∈ ringS ns fw) : s < 256 ∧ ringB ns fw s = true := ⟨(ringS_mem.1 h).1, (topB_iff.1 (ringS_mem.1 h).2).1⟩
theorem ringS_apart {ns : List Nat} {fw i k a b : Nat} (ha : (ringS ns fw)[i]? = some a) (hb : (ringS ns fw)[k]? = some b) (hne : k ≠ i) : a &&& b ≠ a := by
  have h1 := (ringS_mem.1 (List.mem_of_getElem? ha)).2
  obtain ⟨h2, h3⟩ := ringS_ring (List.mem_of_getElem? hb)
  refine (topB_iff.1 h1).2 b h2 h3 (fun e => hne ?_)
  obtain ⟨i1, e1⟩ := List.getElem?_eq_some_iff.1 ha
  obtain ⟨k1, e2⟩ := List.getElem?_eq_some_iff.1 hb
  have hp := List.pairwise_iff_getElem.1 (ringS_nd ns fw)
  rcases Nat.lt_trichotomy i k with h | h | h
  · exact absurd (by rw [e1, e2, e]) (hp i k i1 k1 h)
  · exact h.symm
  · exact absurd (by rw [e1, e2, e]) (hp k i k1 i1 h)
theorem ringS_all {ns : List Nat} {fw s : Nat} (hs : s < 256) (h : ringB ns fw s = true) : ∃ i t : Nat, (ringS ns fw)[i]? = some t ∧ t &&& s = s := by
  obtain ⟨t, h1, h2, h3⟩ := exists_top (ringB ns fw) 8 s hs h (by omega)
  obtain ⟨i, hi⟩ := List.mem_iff_getElem?.1 (ringS_mem.2 ⟨h1, h2⟩ : t ∈ ringS ns fw)
  exact ⟨i, t, hi, by rw [and_comm']; exact h3⟩
/-! ### Another order -/
theorem encBi_len (x : BidV) : (encBi x).length = 3 := rfl
def mixAt (bits : List Int) (i : Nat) : Nat := (ringI (pickI bits i) ((i : Int) + 1)).toNat
def mixS (bits : List Int) (out : List BidV) (i : Nat) (b : BidV) : List BidV := (out.take (mixAt bits i) ++ [b]) ++ out.drop (mixAt bits i)
def mixG (bits : List Int) : List BidV → Nat → List BidV → List BidV
  | [], _, out => out
  | b :: l, i, out => mixG bits l (i + 1) (mixS bits out i b)
theorem mixG_drop (bits : List Int) (bs out : List BidV) (k : Nat) (b : BidV) (h : bs[k]? = some b) : mixG bits (bs.drop k) k out = mixG bits (bs.drop (k + 1)) (k + 1) (mixS bits out k b) := by
  obtain ⟨h1, h2⟩ := List.getElem?_eq_some_iff.1 h
  rw [List.drop_eq_getElem_cons h1, h2, mixG]
theorem mixS_perm (bits : List Int) (out : List BidV) (i : Nat) (b : BidV) : (mixS bits out i b).Perm (out ++ [b]) := by
  unfold mixS
  have h1 : ((out.take (mixAt bits i) ++ [b]) ++ out.drop (mixAt bits i)).Perm ((out.take (mixAt bits i) ++ out.drop (mixAt bits i)) ++ [b]) := by
    rw [List.append_assoc, List.append_assoc]
    exact List.Perm.append_left _ List.perm_append_comm
  rw [List.take_append_drop] at h1
  exact h1
theorem mixS_len (bits : List Int) (out : List BidV) (i : Nat) (b : BidV) : (mixS bits out i b).length = out.length + 1 := by rw [(mixS_perm bits out i b).length_eq]; simp
theorem mixG_perm (bits : List Int) : ∀ (l : List BidV) (i : Nat) (out : List BidV), (mixG bits l i out).Perm (out ++ l)
  | [], _, out => by rw [List.append_nil]; exact .refl _
  | b :: l, i, out => by
    have h1 := mixG_perm bits l (i + 1) (mixS bits out i b)
    refine h1.trans ?_
    have h2 := (mixS_perm bits out i b).append_right l
    rw [List.append_assoc] at h2
    exact h2
theorem mixed_perm (bits : List Int) (bs : List BidV) : (mixG bits bs 0 []).Perm bs := mixG_perm bits bs 0 []
theorem mixAt_bd (bits : List Int) (i : Nat) : ringI (pickI bits i) ((i : Int) + 1) = (mixAt bits i : Int) ∧ mixAt bits i ≤ i := by
  have := ringI_bd (pickI bits i) ((i : Int) + 1) (by omega)
  unfold mixAt
  omega
theorem bidsB_perm {bs cs : List BidV} (h : cs.Perm bs) : bidsB cs = bidsB bs := by
  unfold bidsB
  rw [h.length_eq]
  congr 1
  rw [Bool.eq_iff_iff, List.all_eq_true, List.all_eq_true]
  exact ⟨fun h1 x hx => h1 x (h.mem_iff.2 hx), fun h1 x hx => h1 x (h.mem_iff.1 hx)⟩
theorem sellE_perm {st rv : Int} {lad : List RiseV} {bs cs : List BidV} (h : cs.Perm bs) : SellE st rv lad cs = SellE st rv lad bs := by unfold SellE; rw [bidsB_perm h]
theorem offs_perm {rs : List Int} {bs cs : List BidV} (h : cs.Perm bs) : (offs rs cs).Perm (offs rs bs) := (h.map _).filter _
theorem offs_pos {rs : List Int} {bs : List BidV} : ∀ o ∈ offs rs bs, 1 ≤ o.most := fun o ho => by
  have := (List.mem_filter.1 ho).2
  have := of_decide_eq_true this
  omega
theorem sellV_perm {st rv : Int} {lad : List RiseV} {bs cs : List BidV} (h : cs.Perm bs) : SellV st rv lad cs = SellV st rv lad bs := by
  unfold SellV
  rw [bidsB_perm h, knock_perm (offs_perm h) offs_pos]
theorem roomL_len_perm {st rv : Int} {lad : List RiseV} {bs cs : List BidV} (h : cs.Perm bs) : (RoomL st rv lad cs).length = (RoomL st rv lad bs).length := by
  unfold RoomL
  rw [bidsB_perm h]
  split
  · rw [roomG_len, roomG_len, h.length_eq]
  · rfl
theorem sellE_0 {st rv : Int} {lad : List RiseV} {bs : List BidV} (h : SellE st rv lad bs = 0) : lotB st rv lad = true ∧ bidsB bs = true := by
  unfold SellE at h
  split at h
  · rename_i h1
    split at h
    · rename_i h2; exact ⟨h1, h2⟩
    · cases h
  · cases h
theorem sellE_ne {st rv : Int} {lad : List RiseV} {bs : List BidV} (h : SellE st rv lad bs ≠ 0) : SellV st rv lad bs = ⟨0, 0⟩ := by
  unfold SellV
  rw [if_neg]
  rintro ⟨h1, h2⟩
  apply h
  unfold SellE
  rw [if_pos h1, if_pos h2]
theorem room_nil {st rv : Int} {lad : List RiseV} {bs : List BidV} (h : SellE st rv lad bs = 0) (h2 : (RoomL st rv lad bs).length = 0) : SellV st rv lad bs = ⟨-1, 0⟩ := by
  obtain ⟨h3, h4⟩ := sellE_0 h
  unfold RoomL at h2
  rw [if_pos ⟨h3, h4⟩, roomG_len] at h2
  have : bs = [] := List.eq_nil_of_length_eq_zero h2
  subst this
  unfold SellV
  rw [if_pos ⟨h3, h4⟩]
  rfl
theorem room_last {st rv : Int} {lad : List RiseV} {bs : List BidV} (h : SellE st rv lad bs = 0) {n : Nat} (hn : n + 1 = (RoomL st rv lad bs).length) : (RoomL st rv lad bs)[n]? = some (roomE (rgL lad st) st bs) := by
  obtain ⟨h3, h4⟩ := sellE_0 h
  unfold RoomL at hn ⊢
  rw [if_pos ⟨h3, h4⟩] at hn ⊢
  rw [roomG_len] at hn
  rw [roomG_get (rgL lad st) st bs lead0 n (by omega), List.take_of_length_le (by omega)]
  rfl
theorem room_last_perm {st rv : Int} {lad : List RiseV} {bs cs : List BidV} (hp : cs.Perm bs) (h : SellE st rv lad bs = 0) {n : Nat} (hn : n + 1 = (RoomL st rv lad bs).length) : (RoomL st rv lad cs)[n]? = some (roomE (rgL lad st) st bs) := by
  have h2 : SellE st rv lad cs = 0 := by rw [sellE_perm hp]; exact h
  rw [room_last h2 (by rw [roomL_len_perm hp]; exact hn)]
  obtain ⟨_, h4⟩ := sellE_0 h2
  rw [lead_perm hp (fun b hb => ((bids_ok h4).2 b hb).1)]
theorem sell_lead {st rv : Int} {lad : List RiseV} {bs : List BidV} (h : SellE st rv lad bs = 0) :
    SellV st rv lad bs = if (roomE (rgL lad st) st bs).who = -1 ∨ leastR st rv lad = 0 ∨ (roomE (rgL lad st) st bs).limit < leastR st rv lad then ⟨-1, 0⟩ else ⟨(roomE (rgL lad st) st bs).who, max (leastR st rv lad) (roomE (rgL lad st) st bs).price⟩ := by
  obtain ⟨h3, h4⟩ := sellE_0 h
  unfold SellV
  rw [if_pos ⟨h3, h4⟩]
  exact knock_lead bs (fun b hb => ((bids_ok h4).2 b hb).1)
theorem floorR {st rv : Int} {lad : List RiseV} (h : lotB st rv lad = true) : floorF (rgL lad st) st rv = (leastR st rv lad, !(leastR st rv lad == 0)) := by
  have hok := lot_ok h
  exact floor_eq hok.lad hok.st.1 hok.st.2
theorem rung_idem {st rv : Int} {lad : List RiseV} (h : LotOk st rv lad) {n : Int} (hp : 0 < rungR st lad n) : rungR st lad (rungR st lad n) = rungR st lad n := by
  have ha := rgL_asc h.lad h.st.1
  unfold rungR at hp ⊢
  rcases rungF_spec (n := n) (rgL lad st) 0 ha with ⟨e, _⟩ | ⟨h1, _, _⟩
  · omega
  · rcases rungF_spec (n := rungF n (rgL lad st) 0) (rgL lad st) 0 ha with ⟨_, h3⟩ | ⟨_, h4, h5⟩
    · exact absurd (h3 _ h1) (by omega)
    · have := h5 _ h1 (Int.le_refl _); omega
/-! ### What is paid -/
theorem behF_gt {n : Int} : ∀ (rs : List Int), behF n rs = 0 ∨ n < behF n rs
  | [] => .inl rfl
  | p :: l => by
    rw [behF]
    split
    · rename_i h; exact .inr h
    · exact behF_gt l
theorem behF_mono {n m : Int} (hnm : n ≤ m) : ∀ (rs : List Int), rs.Pairwise (· < ·) → behF m rs = 0 ∨ behF n rs ≤ behF m rs
  | [], _ => .inl rfl
  | p :: l, h => by
    have h1 := List.pairwise_cons.1 h
    rw [behF, behF]
    by_cases h2 : n < p
    · rw [if_pos h2]
      split
      · exact .inr (Int.le_refl _)
      · have hm : behF m l = 0 ∨ behF m l ∈ l := by
          have : ∀ (l : List Int), behF m l = 0 ∨ behF m l ∈ l := by
            intro l
            induction l with
            | nil => exact .inl rfl
            | cons q l ih =>
              rw [behF]
              split
              · exact .inr (List.mem_cons_self ..)
              · rcases ih with e | e
                · exact .inl e
                · exact .inr (List.mem_cons_of_mem _ e)
          exact this l
        rcases hm with e | e
        · exact .inl e
        · exact .inr (Int.le_of_lt (h1.1 _ e))
    · rw [if_neg h2, if_neg (by omega)]
      exact behF_mono hnm l h1.2
structure PayF (st rv : Int) (lad : List RiseV) (bs : List BidV) (own other : Int) : Prop where
  e1 : RungE st rv lad own = 0
  le : (SellV st rv lad bs).price ≤ RungV st rv lad own
  g1 : rv ≤ (SellV st rv lad bs).price
  g2 : st ≤ (SellV st rv lad bs).price
  o1 : RungV st rv lad other ≤ RungV st rv lad own
  o2 : RungV st rv lad other ≤ (SellV st rv lad bs).price
theorem pays {st rv : Int} {lad : List RiseV} {bs : List BidV} (h : SellE st rv lad bs = 0) (hw : (SellV st rv lad bs).winner ≠ -1) :
    PayF st rv lad bs (maxB (fun b => b.who == (SellV st rv lad bs).winner) bs 0) (maxB (fun b => !(b.who == (SellV st rv lad bs).winner)) bs 0) := by
  obtain ⟨h3, h4⟩ := sellE_0 h
  have hok := lot_ok h3
  have ha := rgL_asc hok.lad hok.st.1
  have hb := (bids_ok h4).2
  have e : SellV st rv lad bs = knockF (rgL lad st) st (leastR st rv lad) (offs (rgL lad st) bs) := by unfold SellV; rw [if_pos ⟨h3, h4⟩]
  rw [e] at hw ⊢
  obtain ⟨W, s, hW, hS, hs0, hsW, hl0, hlW, hk⟩ := knock_sold offs_pos hw
  rw [hk]
  have hWm := offs_rung ha hW.mem
  have hWp := ha.pos _ hWm
  have hr := own_rung ha hW (fun b hb' => (hb b hb').2.2.1)
  have ho := other_rung ha hS hs0
  have hp := price_bd ha (start := st) (by have := hok.st; omega) hWm (rgL_start hok.lad hok.st.1) hsW
  have hv : ∀ n, RungV st rv lad n = rungF n (rgL lad st) 0 := fun n => by unfold RungV rungR; rw [if_pos h3]
  have hlr := (behF_gt (n := rv - 1) (rgL lad st)).resolve_left hl0
  have hll : rv ≤ leastR st rv lad := by unfold leastR; omega
  refine ⟨?_, ?_, ?_, ?_, ?_, ?_⟩
  · unfold RungE rungR; rw [if_pos h3, hr, if_pos (by omega)]
  · rw [hv, hr, e, hk]; simp only; omega
  · rw [e, hk]; simp only; omega
  · rw [e, hk]; simp only; omega
  · rw [hv, hv, hr]; exact Int.le_trans ho hsW
  · rw [hv, e, hk]; have := ho; simp only; omega
theorem pays_more {st rv : Int} {lad : List RiseV} {bs : List BidV} {b : BidV} (h : SellE st rv lad bs = 0) (hw : (SellV st rv lad bs).winner ≠ -1) : (SellE st rv lad (bs ++ [b]) = 0 ∧ (SellV st rv lad (bs ++ [b])).winner ≠ -1 ∧ (SellV st rv lad bs).price ≤ (SellV st rv lad (bs ++ [b])).price) ∨ SellE st rv lad (bs ++ [b]) = 61 := by
  obtain ⟨h3, h4⟩ := sellE_0 h
  have hok := lot_ok h3
  have ha := rgL_asc hok.lad hok.st.1
  by_cases h5 : bidsB (bs ++ [b]) = true
  · left
    have e : SellV st rv lad bs = knockF (rgL lad st) st (leastR st rv lad) (offs (rgL lad st) bs) := by unfold SellV; rw [if_pos ⟨h3, h4⟩]
    have e2 : SellV st rv lad (bs ++ [b]) = knockF (rgL lad st) st (leastR st rv lad) (offs (rgL lad st) (bs ++ [b])) := by unfold SellV; rw [if_pos ⟨h3, h5⟩]
    rw [e] at hw
    rw [e, e2]
    refine ⟨by unfold SellE; rw [if_pos h3, if_pos h5], ?_⟩
    exact knock_more ha (by have := hok.st; omega) (rgL_start hok.lad hok.st.1) (fun c hc => ((bids_ok h4).2 c hc).1) ((bids_ok h5).2 b (by simp)).1.1 hw
  · right
    unfold SellE
    rw [if_pos h3, if_neg h5]
theorem lotB_rv {st rv rv2 : Int} {lad : List RiseV} (h : lotB st rv lad = true) (h2 : 0 ≤ rv2 ∧ rv2 ≤ 100000) : lotB st rv2 lad = true := by
  unfold lotB at h ⊢
  simp only [Bool.and_eq_true] at h ⊢
  exact ⟨⟨⟨⟨h.1.1.1.1, btw_t.2 h2⟩, h.1.1.2⟩, h.1.2⟩, h.2⟩
theorem pays_dear {st rv rv2 : Int} {lad : List RiseV} {bs : List BidV} (h : SellE st rv lad bs = 0) (hw : (SellV st rv lad bs).winner ≠ -1) (hr : rv ≤ rv2 ∧ rv2 ≤ 100000) : SellE st rv2 lad bs = 0 ∧ (SellV st rv2 lad bs = ⟨-1, 0⟩ ∨ (SellV st rv2 lad bs).winner = (SellV st rv lad bs).winner ∧ (SellV st rv lad bs).price ≤ (SellV st rv2 lad bs).price) := by
  obtain ⟨h3, h4⟩ := sellE_0 h
  have hok := lot_ok h3
  have ha := rgL_asc hok.lad hok.st.1
  have h5 := lotB_rv h3 (rv2 := rv2) (by have := hok.rv; omega)
  have e : SellV st rv lad bs = knockF (rgL lad st) st (leastR st rv lad) (offs (rgL lad st) bs) := by unfold SellV; rw [if_pos ⟨h3, h4⟩]
  have e2 : SellV st rv2 lad bs = knockF (rgL lad st) st (leastR st rv2 lad) (offs (rgL lad st) bs) := by unfold SellV; rw [if_pos ⟨h5, h4⟩]
  rw [e] at hw
  rw [e, e2]
  refine ⟨by unfold SellE; rw [if_pos h5, if_pos h4], ?_⟩
  refine knock_dear hw ?_
  unfold leastR
  exact behF_mono (by omega) _ ha.lt
theorem sell_none {st rv : Int} {lad : List RiseV} {bs : List BidV} (h : SellE st rv lad bs = 0) (hw : (SellV st rv lad bs).winner = -1) : (SellV st rv lad bs).price = 0 := by
  obtain ⟨h3, h4⟩ := sellE_0 h
  have e : SellV st rv lad bs = knockF (rgL lad st) st (leastR st rv lad) (offs (rgL lad st) bs) := by unfold SellV; rw [if_pos ⟨h3, h4⟩]
  rw [e] at hw ⊢
  exact knock_none (fun q hq => (offs_who (fun c hc => ((bids_ok h4).2 c hc).1) hq).1) hw
end Go.Proofs.Ytehmifpofpifkaa
namespace Go.Proofs.Ytehmifpofpifkaa
open Go.Sx Go.RowKit
set_option maxRecDepth 20000
theorem ne41 (a0 b0 : Int) (a1 b1 : Int) (a2 b2 : Int) (a3 b3 : Int) (a4 b4 : Int) (x y : Operand) (w : World) : (do eqGuard .neq 41 x y (.agg #[.int .i64 a0, .int .i64 a1, .int .i64 a2, .int .i64 a3, .int .i64 a4]) (.agg #[.int .i64 b0, .int .i64 b1, .int .i64 b2, .int .i64 b3, .int .i64 b4]); binOp .neq 41 (.agg #[.int .i64 a0, .int .i64 a1, .int .i64 a2, .int .i64 a3, .int .i64 a4]) (.agg #[.int .i64 b0, .int .i64 b1, .int .i64 b2, .int .i64 b3, .int .i64 b4]) : Sem Value).run Try.prog w = .ok (.bool (!((a0 == b0) && (a1 == b1) && (a2 == b2) && (a3 == b3) && (a4 == b4)))) w := by
  simp [go_sem, Try.eqGuardType41, Try.stoodInHeld41, Try.underlying41, Try.underlying3]
  try ((repeat' split) <;> simp_all)
end Go.Proofs.Ytehmifpofpifkaa
namespace Go.Proofs.Ytehmifpofpifkaa
open Go.Sx Go.RowKit
set_option maxRecDepth 20000

end Go.Proofs.Ytehmifpofpifkaa
namespace Go.Proofs.Ytehmifpofpifkaa
open Go.Sx Go.RowKit
set_option maxRecDepth 20000

end Go.Proofs.Ytehmifpofpifkaa
namespace Go.Proofs.Ytehmifpofpifkaa
open Go.Sx Go.RowKit
set_option maxRecDepth 20000
theorem el32 : ElemIs Try.prog 32 53 3 24 := ⟨⟨_, (.agg #[.int .i64 0, .int .i64 0, .int .i64 0]), Try.underlying32, Try.type53, by kernel_rfl, by kernel_rfl, by kernel_rfl, by kernel_rfl, by decide⟩⟩
theorem eq34 (a0 b0 : Int) (a1 b1 : Int) (x y : Operand) (w : World) : (do eqGuard .eql 34 x y (.agg #[.int .i64 a0, .int .i64 a1]) (.agg #[.int .i64 b0, .int .i64 b1]); binOp .eql 34 (.agg #[.int .i64 a0, .int .i64 a1]) (.agg #[.int .i64 b0, .int .i64 b1]) : Sem Value).run Try.prog w = .ok (.bool ((a0 == b0) && (a1 == b1))) w := by
  simp [go_sem, Try.eqGuardType34, Try.stoodInHeld34, Try.underlying34, Try.underlying3]
  try ((repeat' split) <;> simp_all)
end Go.Proofs.Ytehmifpofpifkaa
namespace Go.Proofs.Ytehmifpofpifkaa
open Go.Sx Go.RowKit Am
set_option maxRecDepth 20000
set_option maxHeartbeats 1000000 in
theorem k_apart (past : List Int) (Ap : Option Addr) (cp : Nat) (ns : List Nat) (fw : Nat) (s : Nat) (w : World) (hpa : Rd w 1 enInt Ap past) (hns : past = intsL ns) (hnl : ns.length = past.length) (hl64 : past.length ≤ 64) (hn256 : ∀ n ∈ ns, n < 256) (hs8 : s < 256) : Calls Try.prog 37 #[.slice Ap past.length cp, .int .i64 (fw : Nat), .int .i64 (s : Nat)] w (fun e w' => e = .returned (.bool (ringB ns fw s)) ∧ Grow w w') := by
  have hlen := hpa.len
  refine enter_pure (args := [.slice Ap past.length cp, .int .i64 (fw : Nat), .int .i64 (s : Nat)]) [sl (fun b => b < w.heap.size) 1 enInt Ap past] Try.func37 rfl (by rw [Try.ntmps37]; simp) (fun g hg => by simp at hg; subst hg; exact ⟨hpa, fun _ h => h⟩) ?_
  refine cj_seq ?_
  refine cj_regionG (gj_step (y_assign rfl) rfl rfl rfl (gj_nil ?_))
  refine ej_th (cj_seq ?_)
  refine cj_regionG (gj_step (y_assign rfl) rfl rfl rfl (gj_nil ?_))
  refine ej_th (cj_seq (cj_seq ?_))
  refine cj_regionG (gj_step (y_assign rfl) rfl rfl rfl (gj_nil ?_))
  refine ej_th (cj_block ?_)
  refine cj_lpic (X := Nat × Int) [(0, _), (1, _), (2, _)] (fun ⟨k, m⟩ => k ≤ 8 ∧ m = (cntTo (fun i => s.testBit i) k : Int) ∧ ∀ j, j < k → s.testBit j = true → fw ≤ cntb ns j ∧ ∀ n ∈ ns, n.testBit j = true → n &&& s = 2 ^ j) (fun ⟨k, m⟩ => [(7, .int .i64 m), (8, .int .i64 (k : Nat))]) (fun ⟨k, m⟩ => 8 - k) (0, 0) (⟨Nat.zero_le _, rfl, fun j hj => absurd hj (Nat.not_lt_zero j)⟩) ⟨rfl, rfl, rfl, rfl, rfl, trivial⟩ ?_
  rintro ⟨k, m⟩ ⟨hk, hm, hbs⟩
  dsimp only [List.cons_append, List.nil_append]
  refine cj_seq (cj_seq ?_)
  refine cj_regionG (gj_step (y_move rfl) rfl rfl rfl (gj_step (y_lss rfl rfl) rfl rfl rfl (gj_nil ?_)))
  refine ej_th ?_
  refine cj_cond rfl (fun h12 => ?_) (fun h12 => ?_)
  · have h12b := h12
    try simp only [sxb] at h12
    refine cj_skip (ej_th (cj_seq (cj_block (cj_seq (cj_seq ?_)))))
    refine cj_regionG ?_
    refine gj_step (y_move rfl) rfl rfl rfl (gj_step (y_move rfl) rfl rfl rfl (?_))
    refine gj_step (y_call Try.call79 rfl (fun w hp => k_Bit s k w (by omega))) rfl rfl rfl ?_
    refine gj_step (y_not rfl) rfl rfl rfl (?_)
    refine gj_nil ?_
    refine ej_th ?_
    refine cj_cond rfl (fun h18 => ?_) (fun h18 => ?_)
    · have h18b := h18
      try simp only [sxb] at h18
      have hsk : s.testBit k = false := not_t h18b
      refine cj_exit (ej_then_exit (ej_blk_hit (ej_th ?_)))
      refine cj_regionG (gj_step (y_move rfl) rfl rfl rfl (gj_step (y_add rfl rfl (by omega)) rfl rfl rfl (gj_step (y_assign rfl) rfl rfl rfl (gj_nil ?_))))
      exact ej_nx (k + 1, m) (by simp only; omega) ⟨by first | omega | (simp only; omega), by rw [hm, cntTo, if_neg (by rw [hsk]; simp)]; omega, fun j hj hb => by
        have hj : j < k + 1 := hj
        by_cases e : j = k
        · rw [e, hsk] at hb; cases hb
        · exact hbs j (by omega) hb⟩ ⟨rfl, rfl, rfl, rfl, rfl, trivial⟩
    · have h18b := h18
      try simp only [sxb] at h18
      have hsk : s.testBit k = true := not_f h18b
      refine cj_skip (ej_th (cj_seq ?_))
      refine cj_regionG (gj_step (y_move rfl) rfl rfl rfl (gj_step (y_add rfl rfl (by have := cntTo_le (fun i => s.testBit i) k; omega)) rfl rfl rfl (gj_step (y_assign rfl) rfl rfl rfl (gj_nil ?_))))
      refine ej_th (cj_seq ?_)
      refine cj_regionG (gj_step (y_assign rfl) rfl rfl rfl (gj_nil ?_))
      refine ej_th (cj_seq (cj_seq ?_))
      refine cj_regionG (gj_step (y_assign rfl) rfl rfl rfl (gj_nil ?_))
      refine ej_th (cj_block ?_)
      refine cj_lpic (X := Nat × Int) [(7, _), (8, _), (0, _), (1, _), (2, _)] (fun ⟨i, c⟩ => i ≤ past.length ∧ c = cntb (ns.take i) k ∧ ∀ j n, j < i → ns[j]? = some n → n.testBit k = true → n &&& s = 2 ^ k) (fun ⟨i, c⟩ => [(9, .int .i64 c), (10, .int .i64 (i : Nat))]) (fun ⟨i, c⟩ => past.length - i) (0, 0) (⟨Nat.zero_le _, by simp [cntb], fun j n hj => absurd hj (Nat.not_lt_zero j)⟩) ⟨rfl, rfl, rfl, rfl, rfl, rfl, rfl, trivial⟩ ?_
      rintro ⟨i, c⟩ ⟨hi, hc, hci⟩
      dsimp only [List.cons_append, List.nil_append]
      refine cj_seq (cj_seq ?_)
      refine cj_regionG (gj_step (y_move rfl) rfl rfl rfl (gj_step (y_move rfl) rfl rfl rfl (gj_step (y_lenA Try.underlying43 rfl) rfl rfl rfl (gj_step (y_lss rfl rfl) rfl rfl rfl (gj_nil ?_)))))
      refine ej_th ?_
      refine cj_cond rfl (fun h24 => ?_) (fun h24 => ?_)
      · have h24b := h24
        try simp only [sxb] at h24
        obtain ⟨n, hn⟩ : ∃ n, ns[i]? = some n := ⟨_, List.getElem?_eq_getElem (by omega)⟩
        have hx : past[i]? = some ((n : Nat) : Int) := by rw [hns]; exact get_ints hn
        have hnb := hn256 n (List.mem_of_getElem? hn)
        have hsn := cnt_snoc2 ns i n k hn
        refine cj_skip (ej_th (cj_seq (cj_block (cj_seq ?_))))
        refine cj_regionG ?_
        refine gj_step (y_move rfl) rfl rfl rfl (gj_step (y_move rfl) rfl rfl rfl (gj_step (y_ixR (reads_sl) Try.underlying43 Try.sizeOf3 rfl rfl (⟨by omega, by omega⟩)) rfl rfl rfl (gj_step (y_ld0 (reads_sl) Try.isAgg3 rfl (hx) rfl) rfl rfl rfl (gj_step (y_move rfl) rfl rfl rfl (?_)))))
        refine gj_step (y_call Try.call79 rfl (fun w hp => k_Bit n k w (by omega))) rfl rfl rfl ?_
        refine gj_nil ?_
        refine ej_th ?_
        refine cj_cond rfl (fun h32 => ?_) (fun h32 => ?_)
        · have h32b := h32
          try simp only [sxb] at h32
          have hb1 : n.testBit k = true := h32b
          rw [if_pos hb1] at hsn
          refine cj_seq ?_
          refine cj_regionG (gj_step (y_move rfl) rfl rfl rfl (gj_step (y_add rfl rfl (by have := cnt_le (ns.take i) k; have : (ns.take i).length ≤ 64 := (by rw [List.length_take]; omega); omega)) rfl rfl rfl (gj_step (y_assign rfl) rfl rfl rfl (gj_nil ?_))))
          refine ej_th (cj_seq ?_)
          refine cj_draw (by kernel_rfl) (by kernel_rfl) (gj_step (y_move rfl) rfl rfl rfl (gj_step (y_move rfl) rfl rfl rfl (gj_step (y_ixR (reads_sl) Try.underlying43 Try.sizeOf3 rfl rfl (⟨by omega, by omega⟩)) rfl rfl rfl (gj_step (y_ld0 (reads_sl) Try.isAgg3 rfl (hx) rfl) rfl rfl rfl (gj_step (y_move rfl) rfl rfl rfl (gj_step (y_andN rfl rfl (by omega) (by omega)) rfl rfl rfl (gj_step (y_move rfl) rfl rfl rfl (gj_step (y_shl1 rfl rfl (by omega)) rfl rfl rfl (gj_step (y_neq rfl rfl) rfl rfl rfl (gj_nil ?_))))))))))
          refine ej_th ?_
          refine cj_cond rfl (fun h43 => ?_) (fun h43 => ?_)
          · have h43b := h43
            try simp only [sxb] at h43
            have hne : n &&& s ≠ 2 ^ k := fun e => by
              have h9 : ((((n &&& s : Nat) : Int)) != ((2 ^ k : Nat) : Int)) = true := h43b
              rw [e] at h9; simp at h9
            have hrf : ringB ns fw s = false := ringB_f (fun h => hne (one_of (and_lt hnb) (by omega) (h.2.1 n (List.mem_of_getElem? hn)) (by rw [Nat.testBit_and, hb1, hsk]; rfl)))
            refine cj_seq ?_
            refine cj_regionG (gj_step (y_assign rfl) rfl rfl rfl (gj_nil ?_))
            refine ej_th (cj_ret (ej_blk_ret (ej_then_ret (ej_then_ret (ej_blk_ret (ej_then_ret (ej_blk_ret (ej_then_ret (ej_then_ret (ej_blk_ret (ej_then_ret ?_)))))))))))
            refine ej_ret1 rfl Try.results37 rfl (fun w' hp => ⟨?_, hp.below⟩)
            rw [hrf]
          · have h43b := h43
            try simp only [sxb] at h43
            have heq : n &&& s = 2 ^ k := by
              have h9 : ((((n &&& s : Nat) : Int)) != ((2 ^ k : Nat) : Int)) = false := h43b
              have h8 := bne_eq_false_iff_eq.1 h9
              exact_mod_cast h8
            refine cj_skip (ej_blk (ej_th ?_))
            refine cj_regionG (gj_step (y_move rfl) rfl rfl rfl (gj_step (y_add rfl rfl (by omega)) rfl rfl rfl (gj_step (y_assign rfl) rfl rfl rfl (gj_nil ?_))))
            exact ej_nx (i + 1, c + 1) (by simp only; omega) ⟨by first | omega | (simp only; omega), by rw [hsn, hc], fun j n2 hj hn2 hb => by
              have hj : j < i + 1 := hj
              by_cases e : j = i
              · rw [e, hn] at hn2; injection hn2 with hn2; rw [← hn2]; exact heq
              · exact hci j n2 (by omega) hn2 hb⟩ ⟨rfl, rfl, rfl, rfl, rfl, rfl, rfl, trivial⟩
        · have h32b := h32
          try simp only [sxb] at h32
          have hb1 : n.testBit k = false := h32b
          rw [if_neg (by rw [hb1]; simp)] at hsn
          refine cj_skip (ej_blk (ej_th ?_))
          refine cj_regionG (gj_step (y_move rfl) rfl rfl rfl (gj_step (y_add rfl rfl (by omega)) rfl rfl rfl (gj_step (y_assign rfl) rfl rfl rfl (gj_nil ?_))))
          exact ej_nx (i + 1, c) (by simp only; omega) ⟨by first | omega | (simp only; omega), by rw [hsn, hc]; omega, fun j n2 hj hn2 hb => by
            have hj : j < i + 1 := hj
            by_cases e : j = i
            · rw [e, hn] at hn2; injection hn2 with hn2; rw [← hn2, hb1] at hb; cases hb
            · exact hci j n2 (by omega) hn2 hb⟩ ⟨rfl, rfl, rfl, rfl, rfl, rfl, rfl, trivial⟩
      · have h24b := h24
        try simp only [sxb] at h24
        have hie : i = past.length := by omega
        rw [hie, ← hnl, List.take_length] at hc
        have hc8 : ∀ n ∈ ns, n.testBit k = true → n &&& s = 2 ^ k := fun n hn hb => by
          obtain ⟨j, hj⟩ := List.mem_iff_getElem?.1 hn
          exact hci j n (by have := (List.getElem?_eq_some_iff.1 hj).1; omega) hj hb
        refine cj_exit (ej_then_exit (ej_then_exit (ej_blk_hit (ej_th (cj_seq ?_)))))
        refine cj_regionG (gj_step (y_move rfl) rfl rfl rfl (gj_step (y_move rfl) rfl rfl rfl (gj_step (y_lss rfl rfl) rfl rfl rfl (gj_nil ?_))))
        refine ej_th ?_
        refine cj_cond rfl (fun h46 => ?_) (fun h46 => ?_)
        · have h46b := h46
          try simp only [sxb] at h46
          have hrf : ringB ns fw s = false := ringB_f (fun h => by have h1 := h.1 k (by omega) hsk; omega)
          refine cj_seq ?_
          refine cj_regionG (gj_step (y_assign rfl) rfl rfl rfl (gj_nil ?_))
          refine ej_th (cj_ret (ej_blk_ret (ej_then_ret (ej_then_ret (ej_blk_ret (ej_then_ret ?_))))))
          refine ej_ret1 rfl Try.results37 rfl (fun w' hp => ⟨?_, hp.below⟩)
          rw [hrf]
        · have h46b := h46
          try simp only [sxb] at h46
          refine cj_skip (ej_blk (ej_th ?_))
          refine cj_regionG (gj_step (y_move rfl) rfl rfl rfl (gj_step (y_add rfl rfl (by omega)) rfl rfl rfl (gj_step (y_assign rfl) rfl rfl rfl (gj_nil ?_))))
          exact ej_nx (k + 1, m + 1) (by simp only; omega) ⟨by first | omega | (simp only; omega), by rw [hm, cntTo, if_pos hsk]; omega, fun j hj hb => by
            have hj : j < k + 1 := hj
            by_cases e : j = k
            · rw [e]; exact ⟨by omega, hc8⟩
            · exact hbs j (by omega) hb⟩ ⟨rfl, rfl, rfl, rfl, rfl, trivial⟩
  · have h12b := h12
    try simp only [sxb] at h12
    have hk8 : k = 8 := by omega
    subst hk8
    have hp8 : ∀ n ∈ ns, popc (n &&& s) ≤ 1 := fun n hn => one_to (and_lt (hn256 n hn)) (fun j hj hb => by
      rw [Nat.testBit_and, Bool.and_eq_true] at hb
      exact (hbs j hj hb.2).2 n hn hb.1)
    have hfin : decide ((2 : Int) ≤ m) = ringB ns fw s := by
      rw [hm, ← popc_to1]
      by_cases h2 : 2 ≤ popc s
      · rw [ringB_t (fun j hj hb => (hbs j hj hb).1) hp8 h2, decide_eq_true (by omega)]
      · rw [ringB_f (fun h => h2 h.2.2), decide_eq_false (by omega)]
    refine cj_exit (ej_then_exit (ej_then_exit (ej_blk_hit (ej_th (cj_seq ?_)))))
    refine cj_regionG ?_
    refine gj_step (y_move rfl) rfl rfl rfl (gj_step (y_geq rfl rfl) rfl rfl rfl (gj_step (y_move rfl) rfl rfl rfl (?_)))
    refine gj_g 2 49 51 rfl rfl rfl rfl (fun hg49 => gj_yes rfl rfl rfl (y_move rfl) rfl rfl (gj_yes rfl rfl rfl (y_call Try.call35 rfl (fun w hp => k_From _ _ _ w)) rfl rfl (gj_nil rfl))) ?_
    refine gj_step (y_and rfl rfl rfl) rfl rfl rfl (gj_step (y_assign rfl) rfl rfl rfl (?_))
    refine gj_nil ?_
    refine ej_th (cj_ret ?_)
    refine ej_ret1 rfl Try.results37 rfl (fun w' hp => ⟨?_, hp.below⟩)
    rw [hfin, show (decide ((0 : Int) ≤ (s : Nat)) && decide (((s : Nat) : Int) ≤ 255)) = true by simp; omega]; simp

set_option maxHeartbeats 1000000 in
theorem k_AuctionApart (past : List Int) (Ap : Option Addr) (cp : Nat) (few n : Int) (w : World) (hpa : Rd w 1 enInt Ap past) : Calls Try.prog 10 #[.slice Ap past.length cp, .int .i64 few, .int .i64 n] w (fun e w' => e = .returned (.bool true) ∧ Grow w w') := by
  have hlen := hpa.len
  refine enter_pure (args := [.slice Ap past.length cp, .int .i64 few, .int .i64 n]) [sl (fun b => b < w.heap.size) 1 enInt Ap past] Try.func10 rfl (by rw [Try.ntmps10]; simp) (fun g hg => by simp at hg; subst hg; exact ⟨hpa, fun _ h => h⟩) ?_
  refine cj_seq ?_
  refine cj_regionG (gj_step (y_assign rfl) rfl rfl rfl (gj_nil ?_))
  refine ej_th (cj_seq (cj_region ?_))
  refine oj_step (y_move rfl) rfl rfl rfl ?_
  refine oj_step (y_move rfl) rfl rfl rfl ?_
  refine oj_callS (fun A c => .tuple #[.slice A (ringV past few).length c, .int .i64 (ringE past few)]) 1 enInt (ringV past few) Try.call26 rfl (fun w hp => k_Rings past Ap cp few w hp.rd) rfl (fun A16 c16 fp16 hfp16 => ?_)
  refine oj_step (y_move rfl) rfl rfl rfl ?_
  refine oj_step (y_extract rfl rfl) rfl rfl rfl ?_
  refine oj_step (y_extract rfl rfl) rfl rfl rfl ?_
  refine oj_step (y_assign rfl) rfl rfl rfl ?_
  refine oj_step (y_assign rfl) rfl rfl rfl ?_
  refine oj_nil ?_
  refine ej_th (cj_seq (cj_seq ?_))
  refine cj_regionG (gj_step (y_move rfl) rfl rfl rfl (gj_step (y_neq rfl rfl) rfl rfl rfl (gj_nil ?_)))
  refine ej_th ?_
  refine cj_cond rfl (fun h20 => ?_) (fun h20 => ?_)
  · have h20b := h20
    try simp only [sxb] at h20
    have hno : ringE past few ≠ 0 := by simpa using h20b
    have e2 : ringV past few = [] := by unfold ringV; rw [if_neg hno]
    refine cj_seq ?_
    refine cj_regionG ?_
    refine gj_step (y_move rfl) rfl rfl rfl (gj_step (y_lenA Try.underlying43 rfl) rfl rfl rfl (gj_step (y_eql rfl rfl) rfl rfl rfl (gj_step (y_move rfl) rfl rfl rfl (?_))))
    refine gj_g 1 24 25 rfl rfl rfl rfl (fun hg24 => gj_yes rfl rfl rfl (y_call Try.call21 rfl (fun w hp => k_works w)) rfl rfl (gj_nil rfl)) ?_
    refine gj_step (y_and rfl rfl rfl) rfl rfl rfl (gj_step (y_assign rfl) rfl rfl rfl (?_))
    refine gj_nil ?_
    refine ej_th (cj_ret (ej_then_ret ?_))
    refine ej_ret1 rfl Try.results10 rfl (fun w' hp => ⟨?_, hp.below⟩)
    rw [e2]; rfl
  · have h20b := h20
    try simp only [sxb] at h20
    have h0 : ringE past few = 0 := by simpa using h20b
    obtain ⟨hyes, hy2⟩ := ringE_0 h0
    obtain ⟨hl64, ns, hns, hnn, hnl, hn256⟩ := past_ok hyes
    have hfb := btw_t.1 hy2
    obtain ⟨e1, e2⟩ := ringE_yes hyes hy2
    obtain ⟨fw, rfl⟩ : ∃ fw : Nat, few = fw := ⟨few.toNat, by omega⟩
    rw [hnn, Int.toNat_natCast] at e2
    rw [e2]
    have hrl : (ringS ns fw).length = (intsL (ringS ns fw)).length := by simp
    refine cj_get (fun w1 hp => (show Rd w1 1 enInt A16 (intsL (ringS ns fw)) from hp.rd).len) (fun hlc => ?_)
    refine cj_skip (ej_th (cj_seq (cj_seq ?_)))
    refine cj_regionG (gj_step (y_assign rfl) rfl rfl rfl (gj_nil ?_))
    refine ej_th (cj_block ?_)
    refine cj_lpic (X := Nat) [(0, _), (1, _), (2, _), (7, _)] (fun i => i ≤ (intsL (ringS ns fw)).length ∧ True) (fun i => [(9, .int .i64 i)]) (fun i => (intsL (ringS ns fw)).length - i) 0 (⟨Nat.zero_le _, trivial⟩) ⟨rfl, rfl, rfl, rfl, rfl, trivial⟩ ?_
    rintro i ⟨hi, hsi⟩
    dsimp only [List.cons_append, List.nil_append]
    refine cj_seq (cj_seq ?_)
    refine cj_regionG (gj_step (y_move rfl) rfl rfl rfl (gj_step (y_move rfl) rfl rfl rfl (gj_step (y_lenA Try.underlying43 rfl) rfl rfl rfl (gj_step (y_lss rfl rfl) rfl rfl rfl (gj_nil ?_)))))
    refine ej_th ?_
    refine cj_cond rfl (fun h30 => ?_) (fun h30 => ?_)
    · have h30b := h30
      try simp only [sxb] at h30
      obtain ⟨s, hxn⟩ : ∃ s, (ringS ns fw)[i]? = some s := ⟨_, List.getElem?_eq_getElem (by omega)⟩
      have hx : (intsL (ringS ns fw))[i]? = some ((s : Nat) : Int) := get_ints hxn
      obtain ⟨hx8, hxr⟩ := ringS_ring (List.mem_of_getElem? hxn)
      refine cj_skip (ej_th (cj_seq (cj_block (cj_seq (cj_seq ?_)))))
      refine cj_regionG ?_
      refine gj_step (y_move rfl) rfl rfl rfl (gj_step (y_move rfl) rfl rfl rfl (gj_step (y_move rfl) rfl rfl rfl (gj_step (y_move rfl) rfl rfl rfl (gj_step (y_ixR (reads_sl) Try.underlying43 Try.sizeOf3 rfl rfl (⟨by omega, by omega⟩)) rfl rfl rfl (gj_step (y_ld0 (reads_sl) Try.isAgg3 rfl (hx) rfl) rfl rfl rfl (?_))))))
      refine gj_step (y_call Try.call37 rfl (fun w hp => k_apart past Ap cp ns fw s w hp.rd hns hnl hl64 hn256 hx8)) rfl rfl rfl ?_
      refine gj_step (y_not rfl) rfl rfl rfl (?_)
      refine gj_nil ?_
      refine ej_th ?_
      refine cj_cond rfl (fun h40 => ?_) (fun h40 => ?_)
      · rw [hxr] at h40
        exact absurd h40 (by simp)
      · have h40b := h40
        try simp only [sxb] at h40
        refine cj_skip (ej_th (cj_seq ?_))
        refine cj_regionG (gj_step (y_assign rfl) rfl rfl rfl (gj_nil ?_))
        refine ej_th (cj_block ?_)
        refine cj_lpic (X := Nat) [(9, _), (0, _), (1, _), (2, _), (7, _)] (fun k => k ≤ (intsL (ringS ns fw)).length ∧ True) (fun k => [(10, .int .i64 k)]) (fun k => (intsL (ringS ns fw)).length - k) 0 (⟨Nat.zero_le _, trivial⟩) ⟨rfl, rfl, rfl, rfl, rfl, rfl, trivial⟩ ?_
        rintro k ⟨hk, hsk⟩
        dsimp only [List.cons_append, List.nil_append]
        refine cj_seq (cj_seq ?_)
        refine cj_regionG (gj_step (y_move rfl) rfl rfl rfl (gj_step (y_move rfl) rfl rfl rfl (gj_step (y_lenA Try.underlying43 rfl) rfl rfl rfl (gj_step (y_lss rfl rfl) rfl rfl rfl (gj_nil ?_)))))
        refine ej_th ?_
        refine cj_cond rfl (fun h44 => ?_) (fun h44 => ?_)
        · have h44b := h44
          try simp only [sxb] at h44
          obtain ⟨t, hyn⟩ : ∃ t, (ringS ns fw)[k]? = some t := ⟨_, List.getElem?_eq_getElem (by omega)⟩
          have hy : (intsL (ringS ns fw))[k]? = some ((t : Nat) : Int) := get_ints hyn
          obtain ⟨hy8, hyr⟩ := ringS_ring (List.mem_of_getElem? hyn)
          refine cj_skip (ej_th (cj_seq (cj_block (cj_seq ?_))))
          refine cj_draw (by kernel_rfl) (by kernel_rfl) (gj_step (y_move rfl) rfl rfl rfl (gj_step (y_move rfl) rfl rfl rfl (gj_step (y_neq rfl rfl) rfl rfl rfl (gj_step (y_move rfl) rfl rfl rfl (gj_g 14 50 64 rfl rfl rfl rfl (fun hg50 => gj_yes rfl rfl rfl (y_move rfl) rfl rfl (gj_yes rfl rfl rfl (y_move rfl) rfl rfl (gj_yes rfl rfl rfl (y_ixR (reads_sl) Try.underlying43 Try.sizeOf3 rfl rfl (⟨by omega, by omega⟩)) rfl rfl (gj_yes rfl rfl rfl (y_ld0 (reads_sl) Try.isAgg3 rfl (hx) rfl) rfl rfl (gj_yes rfl rfl rfl (y_move rfl) rfl rfl (gj_yes rfl rfl rfl (y_move rfl) rfl rfl (gj_yes rfl rfl rfl (y_ixR (reads_sl) Try.underlying43 Try.sizeOf3 rfl rfl (⟨by omega, by omega⟩)) rfl rfl (gj_yes rfl rfl rfl (y_ld0 (reads_sl) Try.isAgg3 rfl (hy) rfl) rfl rfl (gj_yes rfl rfl rfl (y_andN rfl rfl (by omega) (by omega)) rfl rfl (gj_yes rfl rfl rfl (y_move rfl) rfl rfl (gj_yes rfl rfl rfl (y_move rfl) rfl rfl (gj_yes rfl rfl rfl (y_ixR (reads_sl) Try.underlying43 Try.sizeOf3 rfl rfl (⟨by omega, by omega⟩)) rfl rfl (gj_yes rfl rfl rfl (y_ld0 (reads_sl) Try.isAgg3 rfl (hx) rfl) rfl rfl (gj_yes rfl rfl rfl (y_eql rfl rfl) rfl rfl (gj_nil rfl))))))))))))))) (gj_step (y_and rfl rfl rfl) rfl rfl rfl (gj_nil ?_)))))))
          refine ej_th ?_
          refine cj_cond rfl (fun h65 => ?_) (fun h65 => ?_)
          · exfalso
            simp only [Bool.and_eq_true, bne_iff_ne, beq_iff_eq] at h65
            exact ringS_apart hxn hyn (fun e => h65.1 (by rw [e])) (by exact_mod_cast h65.2)
          · have h65b := h65
            try simp only [sxb] at h65
            refine cj_skip (ej_blk (ej_th ?_))
            refine cj_regionG (gj_step (y_move rfl) rfl rfl rfl (gj_step (y_add rfl rfl (by omega)) rfl rfl rfl (gj_step (y_assign rfl) rfl rfl rfl (gj_nil ?_))))
            exact ej_nx (k + 1) (by omega) ⟨by omega, trivial⟩ ⟨rfl, rfl, rfl, rfl, rfl, rfl, trivial⟩
        · have h44b := h44
          try simp only [sxb] at h44
          refine cj_exit (ej_then_exit (ej_then_exit (ej_blk_hit (ej_blk (ej_th ?_)))))
          refine cj_regionG (gj_step (y_move rfl) rfl rfl rfl (gj_step (y_add rfl rfl (by omega)) rfl rfl rfl (gj_step (y_assign rfl) rfl rfl rfl (gj_nil ?_))))
          exact ej_nx (i + 1) (by omega) ⟨by omega, trivial⟩ ⟨rfl, rfl, rfl, rfl, rfl, trivial⟩
    · have h30b := h30
      try simp only [sxb] at h30
      refine cj_exit (ej_then_exit (ej_then_exit (ej_blk_hit (ej_th (cj_seq ?_)))))
      refine cj_regionG ?_
      refine gj_step (y_move rfl) rfl rfl rfl (?_)
      refine gj_step (y_call Try.call31 rfl (fun w hp => k_Ring n 256 w (by omega))) rfl rfl rfl ?_
      refine gj_step (y_assign rfl) rfl rfl rfl (?_)
      refine gj_nil ?_
      refine ej_th (cj_seq (cj_seq ?_))
      obtain ⟨g, hg⟩ : ∃ g : Nat, ringI n 256 = (g : Int) := ⟨(ringI n 256).toNat, by have := ringI_bd n 256 (by omega); omega⟩
      have hg8 := ringI_bd n 256 (by omega)
      rw [hg] at hg8 ⊢
      refine cj_regionG ?_
      refine gj_step (y_move rfl) rfl rfl rfl (gj_step (y_move rfl) rfl rfl rfl (gj_step (y_move rfl) rfl rfl rfl (?_)))
      refine gj_step (y_call Try.call37 rfl (fun w hp => k_apart past Ap cp ns fw g w hp.rd hns hnl hl64 hn256 (by omega))) rfl rfl rfl ?_
      refine gj_step (y_not rfl) rfl rfl rfl (?_)
      refine gj_nil ?_
      refine ej_th ?_
      refine cj_cond rfl (fun h72 => ?_) (fun h72 => ?_)
      · have h72b := h72
        try simp only [sxb] at h72
        refine cj_seq ?_
        refine cj_regionG ?_
        refine gj_step (y_call Try.call21 rfl (fun w hp => k_works w)) rfl rfl rfl ?_
        refine gj_step (y_assign rfl) rfl rfl rfl (?_)
        refine gj_nil ?_
        refine ej_th (cj_ret (ej_then_ret ?_))
        refine ej_ret1 rfl Try.results10 rfl (fun w' hp => ⟨?_, hp.below⟩)
        rfl
      · have h72b := h72
        try simp only [sxb] at h72
        have hrg : ringB ns fw g = true := not_f h72b
        obtain ⟨q, t, hq, htg⟩ := ringS_all (by omega) hrg
        refine cj_skip (ej_th (cj_seq (cj_seq ?_)))
        refine cj_regionG (gj_step (y_assign rfl) rfl rfl rfl (gj_nil ?_))
        refine ej_th (cj_block ?_)
        refine cj_lpic (X := Nat) [(7, _), (11, _)] (fun z => z ≤ (intsL (ringS ns fw)).length ∧ ∀ j u, j < z → (ringS ns fw)[j]? = some u → u &&& g ≠ g) (fun z => [(12, .int .i64 (z : Nat))]) (fun z => (intsL (ringS ns fw)).length - z) 0 (⟨Nat.zero_le _, fun j u hj => absurd hj (Nat.not_lt_zero j)⟩) ⟨rfl, rfl, rfl, trivial⟩ ?_
        rintro z ⟨hz0, hzz⟩
        dsimp only [List.cons_append, List.nil_append]
        refine cj_seq (cj_seq ?_)
        refine cj_regionG (gj_step (y_move rfl) rfl rfl rfl (gj_step (y_move rfl) rfl rfl rfl (gj_step (y_lenA Try.underlying43 rfl) rfl rfl rfl (gj_step (y_lss rfl rfl) rfl rfl rfl (gj_nil ?_)))))
        refine ej_th ?_
        refine cj_cond rfl (fun h77 => ?_) (fun h77 => ?_)
        · have h77b := h77
          try simp only [sxb] at h77
          obtain ⟨u, hzn⟩ : ∃ u, (ringS ns fw)[z]? = some u := ⟨_, List.getElem?_eq_getElem (by omega)⟩
          have hz : (intsL (ringS ns fw))[z]? = some ((u : Nat) : Int) := get_ints hzn
          obtain ⟨hz8, hzr⟩ := ringS_ring (List.mem_of_getElem? hzn)
          refine cj_skip (ej_th (cj_seq (cj_block (cj_seq ?_))))
          refine cj_regionG (gj_step (y_move rfl) rfl rfl rfl (gj_step (y_move rfl) rfl rfl rfl (gj_step (y_ixR (reads_sl) Try.underlying43 Try.sizeOf3 rfl rfl (⟨by omega, by omega⟩)) rfl rfl rfl (gj_step (y_ld0 (reads_sl) Try.isAgg3 rfl (hz) rfl) rfl rfl rfl (gj_step (y_move rfl) rfl rfl rfl (gj_step (y_andN rfl rfl (by omega) (by omega)) rfl rfl rfl (gj_step (y_move rfl) rfl rfl rfl (gj_step (y_eql rfl rfl) rfl rfl rfl (gj_nil ?_)))))))))
          refine ej_th ?_
          refine cj_cond rfl (fun h87 => ?_) (fun h87 => ?_)
          · have h87b := h87
            try simp only [sxb] at h87
            refine cj_seq ?_
            refine cj_regionG ?_
            refine gj_step (y_call Try.call21 rfl (fun w hp => k_works w)) rfl rfl rfl ?_
            refine gj_step (y_assign rfl) rfl rfl rfl (?_)
            refine gj_nil ?_
            refine ej_th (cj_ret (ej_blk_ret (ej_then_ret (ej_then_ret (ej_blk_ret (ej_then_ret ?_))))))
            refine ej_ret1 rfl Try.results10 rfl (fun w' hp => ⟨?_, hp.below⟩)
            rfl
          · have h87b := h87
            try simp only [sxb] at h87
            have hne : u &&& g ≠ g := fun e => by
              have h9 : ((((u &&& g : Nat) : Int)) == ((g : Nat) : Int)) = false := h87b
              rw [e] at h9; simp at h9
            refine cj_skip (ej_blk (ej_th ?_))
            refine cj_regionG (gj_step (y_move rfl) rfl rfl rfl (gj_step (y_add rfl rfl (by omega)) rfl rfl rfl (gj_step (y_assign rfl) rfl rfl rfl (gj_nil ?_))))
            exact ej_nx (z + 1) (by omega) ⟨by omega, fun j u2 hj hu2 => by
              by_cases e : j = z
              · rw [e, hzn] at hu2; injection hu2 with hu2; rw [← hu2]; exact hne
              · exact hzz j u2 (by omega) hu2⟩ ⟨rfl, rfl, rfl, trivial⟩
        · exfalso
          rw [decide_eq_false_iff_not] at h77
          exact hzz q t (by have := (List.getElem?_eq_some_iff.1 hq).1; omega) hq htg

set_option maxHeartbeats 1000000 in
theorem k_mixed (bs : List BidV) (Ab : Option Addr) (cb : Nat) (bits : List Int) (Ai : Option Addr) (ci : Nat) (w : World) (hbs : Rd w 3 encBi Ab bs) (hb24 : bs.length * 24 ≤ 140737488351232) (hbi : Rd w 1 enInt Ai bits) (hbi8 : bits.length * 8 ≤ 140737488351232) : Calls Try.prog 29 #[.slice Ab bs.length cb, .slice Ai bits.length ci] w (fun e w' => ∃ A c, e = .returned (.slice A (mixG bits bs 0 []).length c) ∧ Grow w w' ∧ Res w w' 3 encBi A (mixG bits bs 0 [])) := by
  have hlb := hbs.len
  have hli := hbi.len
  refine enter_pure (args := [.slice Ab bs.length cb, .slice Ai bits.length ci]) [sl (fun b => b < w.heap.size) 3 encBi Ab bs, sl (fun b => b < w.heap.size) 1 enInt Ai bits] Try.func29 rfl (by rw [Try.ntmps29]; simp) (fun g hg => by simp at hg; rcases hg with rfl | rfl; exact ⟨hbs, fun _ h => h⟩; exact ⟨hbi, fun _ h => h⟩) ?_
  refine cj_seq ?_
  refine cj_regionG (gj_step (y_assign rfl) rfl rfl rfl (gj_nil ?_))
  refine ej_th (cj_seq ?_)
  refine cj_regionG (gj_step (y_assign rfl) rfl rfl rfl (gj_nil ?_))
  refine ej_th (cj_seq (cj_seq ?_))
  refine cj_regionG (gj_step (y_assign rfl) rfl rfl rfl (gj_nil ?_))
  refine ej_th (cj_block ?_)
  refine cj_ownNil 53 3 encBi ?_
  refine cj_lpi (X := Nat × Option Addr × Nat × List BidV) [(0, _), (1, _), (4, _)] (fun ⟨k, A1, c1, out⟩ => k ≤ bs.length ∧ out.length = k ∧ mixG bits (bs.drop k) k out = (mixG bits bs 0 [])) (fun ⟨k, A1, c1, out⟩ => [(5, .slice A1 out.length c1), (6, .int .i64 (k : Nat))]) (fun ⟨k, A1, c1, out⟩ => [ow 53 3 encBi A1 c1 out]) (fun ⟨k, A1, c1, out⟩ => [sl (fun b => b < w.heap.size) 3 encBi Ab bs, sl (fun b => b < w.heap.size) 1 enInt Ai bits]) (fun ⟨k, A1, c1, out⟩ => bs.length - k) (0, none, 0, []) (⟨Nat.zero_le _, rfl, rfl⟩) ⟨rfl, rfl, rfl, rfl, rfl, trivial⟩ ?_
  rintro ⟨k, A1, c1, out⟩ ⟨hk, hol, hout⟩
  dsimp only [List.cons_append, List.nil_append]
  refine cj_seq (cj_seq ?_)
  refine cj_regionG (gj_step (y_move rfl) rfl rfl rfl (gj_step (y_move rfl) rfl rfl rfl (gj_step (y_lenA Try.underlying32 rfl) rfl rfl rfl (gj_step (y_lss rfl rfl) rfl rfl rfl (gj_nil ?_)))))
  refine ej_th ?_
  refine cj_cond rfl (fun h12 => ?_) (fun h12 => ?_)
  · have h12b := h12
    try simp only [sxb] at h12
    obtain ⟨b, hx⟩ : ∃ b, bs[k]? = some b := ⟨_, List.getElem?_eq_getElem (by omega)⟩
    rw [mixG_drop bits bs out k b hx] at hout
    obtain ⟨har, hak⟩ := mixAt_bd bits k
    refine cj_get (fun w1 hp => hp.owCap (A := A1) (xs := out)) (fun hcap => ?_)
    refine cj_skip (ej_th (cj_seq (cj_block (cj_seq ?_))))
    refine cj_regionG ?_
    refine gj_step (y_move rfl) rfl rfl rfl (gj_step (y_move rfl) rfl rfl rfl (?_))
    refine gj_step (y_call Try.call76 rfl (fun w hp => k_Pick bits Ai ci (k : Nat) w hp.rd hbi8)) rfl rfl rfl ?_
    refine gj_step (y_move rfl) rfl rfl rfl (gj_step (y_add rfl rfl (by omega)) rfl rfl rfl (?_))
    refine gj_step (y_call Try.call31 rfl (fun w hp => k_Ring _ ((k : Int) + 1) w (by omega))) rfl rfl rfl ?_
    refine gj_step (y_assign rfl) rfl rfl rfl (?_)
    refine gj_nil ?_
    refine ej_th (cj_seq ?_)
    refine cj_regionG (gj_step (y_assign rfl) rfl rfl rfl (gj_nil ?_))
    refine ej_th ?_
    rw [har]
    refine cj_ownNil 53 3 encBi ?_
    refine cj_plan 16 (by kernel_rfl) (by kernel_rfl) ?_
    refine pl_y 0 rfl (y_move rfl) rfl rfl rfl rfl (by kernel_rfl) ?_
    refine pl_y 1 rfl (y_move rfl) rfl rfl rfl rfl (by kernel_rfl) ?_
    refine pl_y 2 rfl (y_move rfl) rfl rfl rfl rfl (by kernel_rfl) ?_
    refine pl_y 3 rfl (y_sliceR (xs := out) 0 (mixAt bits k) Try.underlying32 Try.sizeOf53 rfl rfl rfl (Nat.zero_le _) (by omega) hcap) rfl rfl rfl rfl (by kernel_rfl) ?_
    refine pl_y 5 rfl (y_move rfl) rfl rfl rfl rfl (by kernel_rfl) ?_
    refine pl_y 6 rfl (y_move rfl) rfl rfl rfl rfl (by kernel_rfl) ?_
    refine pl_y 7 rfl (y_ixR (reads_sl) Try.underlying32 Try.sizeOf53 rfl rfl (⟨by omega, by omega⟩)) rfl rfl rfl rfl (by kernel_rfl) ?_
    refine pl_y 8 rfl (y_ldW (reads_sl) Try.isAgg53 Try.sizeOf53 rfl (hx) (fun _ => rfl)) rfl rfl rfl rfl (by kernel_rfl) ?_
    refine pl_y 11 rfl (y_move rfl) rfl rfl rfl rfl (by kernel_rfl) ?_
    refine pl_y 12 rfl (y_move rfl) rfl rfl rfl rfl (by kernel_rfl) ?_
    refine pl_y 13 rfl (y_sliceR (xs := out) (mixAt bits k) out.length Try.underlying32 Try.sizeOf53 rfl rfl rfl (by omega) (Nat.le_refl _) hcap) rfl rfl rfl rfl (by kernel_rfl) ?_
    refine pl_w2 4 9 (by kernel_rfl) rfl rfl (pl_fire rfl rfl rfl (by kernel_rfl) ?_) (pl_fire rfl rfl rfl (by kernel_rfl) ?_)
    · refine oj_append (xs := ([] : List BidV)) (ys := (out.take (mixAt bits k)).drop 0) (c := 0) el32 (fun _ => rfl) encBi_one rfl rfl rfl (reads_sub (reads_ow (xs := out) encBi_len) 0 (mixAt bits k) hcap) (by unfold maxLen; simp only [List.length_nil, List.length_drop, List.length_take]; omega) (by simp only [List.length_nil, List.length_drop, List.length_take]; omega) rfl (fun A25 c25 => ?_)
      refine oj_nil ?_
      refine ej_pl (lt_y (y_sliceR (xs := out) (mixAt bits k) out.length Try.underlying32 Try.sizeOf53 rfl rfl rfl (by omega) (Nat.le_refl _) hcap) rfl (lt_y (y_move rfl) rfl (lt_y (y_move rfl) rfl (lt_y (y_ldW (reads_sl) Try.isAgg53 Try.sizeOf53 rfl (hx) (fun _ => rfl)) rfl (lt_y (y_ixR (reads_sl) Try.underlying32 Try.sizeOf53 rfl rfl (⟨by omega, by omega⟩)) rfl (lt_y (y_move rfl) rfl (lt_y (y_move rfl) rfl (lt_w (by kernel_rfl) (lt_y (y_move rfl) rfl (lt_y (y_move rfl) rfl (lt_w (by kernel_rfl) (lt_nil)))))))))))) ?_
      refine pl_w1 9 (by kernel_rfl) rfl rfl (pl_fire rfl rfl rfl (by kernel_rfl) ?_)
      refine oj_buildSlice (cs := [.int .i64 b.who, .int .i64 b.way, .int .i64 b.most]) [.int .i64 0, .int .i64 0, .int .i64 0] Try.underlying32 Try.sizeOf53 Try.zeroValue53 rfl rfl (by kernel_rfl) (by kernel_rfl) rfl (fun b30 => ?_)
      refine oj_nil ?_
      refine ej_pl (lt_y (y_sliceR (xs := out) (mixAt bits k) out.length Try.underlying32 Try.sizeOf53 rfl rfl rfl (by omega) (Nat.le_refl _) hcap) rfl (lt_y (y_move rfl) rfl (lt_y (y_move rfl) rfl (lt_w (by kernel_rfl) (lt_y (y_ixR (reads_sl) Try.underlying32 Try.sizeOf53 rfl rfl (⟨by omega, by omega⟩)) rfl (lt_y (y_move rfl) rfl (lt_y (y_move rfl) rfl (lt_y (y_sliceR (xs := out) 0 (mixAt bits k) Try.underlying32 Try.sizeOf53 rfl rfl rfl (Nat.zero_le _) (by omega) hcap) rfl (lt_y (y_move rfl) rfl (lt_y (y_move rfl) rfl (lt_y (y_move rfl) rfl (lt_nil)))))))))))) ?_
      refine pl_w1 10 (by kernel_rfl) rfl rfl (pl_fire rfl rfl rfl (by kernel_rfl) ?_)
      refine oj_append (xs := ([] : List BidV) ++ (out.take (mixAt bits k)).drop 0) el32 (fun _ => rfl) encBi_one rfl rfl rfl (reads_lit [b] (fun _ => rfl) rfl) (by unfold maxLen; simp only [List.length_nil, List.length_cons, List.length_append, List.length_drop, List.length_take]; omega) (by simp only [List.length_nil, List.length_cons, List.length_append, List.length_drop, List.length_take]; omega) rfl (fun A31 c31 => ?_)
      refine oj_nil ?_
      refine ej_pl (lt_y (y_sliceR (xs := out) (mixAt bits k) out.length Try.underlying32 Try.sizeOf53 rfl rfl rfl (by omega) (Nat.le_refl _) hcap) rfl (lt_y (y_move rfl) rfl (lt_y (y_move rfl) rfl (lt_y (y_ldW (reads_sl) Try.isAgg53 Try.sizeOf53 rfl (hx) (fun _ => rfl)) rfl (lt_y (y_ixR (reads_sl) Try.underlying32 Try.sizeOf53 rfl rfl (⟨by omega, by omega⟩)) rfl (lt_y (y_move rfl) rfl (lt_y (y_move rfl) rfl (lt_y (y_sliceR (xs := out) 0 (mixAt bits k) Try.underlying32 Try.sizeOf53 rfl rfl rfl (Nat.zero_le _) (by omega) hcap) rfl (lt_y (y_move rfl) rfl (lt_y (y_move rfl) rfl (lt_y (y_move rfl) rfl (lt_nil)))))))))))) ?_
      refine pl_w1 14 (by kernel_rfl) rfl rfl (pl_fire rfl rfl rfl (by kernel_rfl) ?_)
      refine oj_append (xs := (([] : List BidV) ++ (out.take (mixAt bits k)).drop 0) ++ [b]) (ys := (out.take out.length).drop (mixAt bits k)) el32 (fun _ => rfl) encBi_one rfl rfl rfl (reads_sub (reads_ow (xs := out) encBi_len) (mixAt bits k) out.length hcap) (by unfold maxLen; simp only [List.length_nil, List.length_cons, List.length_append, List.length_drop, List.length_take]; omega) (by simp only [List.length_nil, List.length_cons, List.length_append, List.length_drop, List.length_take]; omega) rfl (fun A35 c35 => ?_)
      refine oj_nil ?_
      refine ej_pl (lt_w (by kernel_rfl) (lt_y (y_move rfl) rfl (lt_y (y_move rfl) rfl (lt_y (y_ldW (reads_sl) Try.isAgg53 Try.sizeOf53 rfl (hx) (fun _ => rfl)) rfl (lt_y (y_ixR (reads_sl) Try.underlying32 Try.sizeOf53 rfl rfl (⟨by omega, by omega⟩)) rfl (lt_y (y_move rfl) rfl (lt_y (y_move rfl) rfl (lt_y (y_sliceR (xs := out) 0 (mixAt bits k) Try.underlying32 Try.sizeOf53 rfl rfl rfl (Nat.zero_le _) (by omega) hcap) rfl (lt_y (y_move rfl) rfl (lt_y (y_move rfl) rfl (lt_y (y_move rfl) rfl (lt_nil)))))))))))) ?_
      refine pl_y 15 rfl (y_assign rfl) rfl rfl rfl rfl (by kernel_rfl) ?_
      refine pl_end (by kernel_rfl) ?_
      refine ej_blk (ej_th ?_)
      refine cj_regionG (gj_step (y_move rfl) rfl rfl rfl (gj_step (y_add rfl rfl (by omega)) rfl rfl rfl (gj_step (y_assign rfl) rfl rfl rfl (gj_nil ?_))))
      obtain ⟨o2, ho2⟩ : ∃ o2, o2 = ((([] : List BidV) ++ (out.take (mixAt bits k)).drop 0) ++ [b]) ++ (out.take out.length).drop (mixAt bits k) := ⟨_, rfl⟩
      have hoe : o2 = mixS bits out k b := by rw [ho2]; simp [mixS]
      rw [← ho2]
      refine ej_takes [ow 53 3 encBi A35 c35 o2] ?_
      exact ej_nx (k + 1, A35, c35, o2) (by simp only; omega) ⟨by first | omega | (simp only; omega), by rw [hoe, mixS_len, hol], by rw [hoe]; exact hout⟩ ⟨rfl, rfl, rfl, rfl, rfl, trivial⟩
    · refine oj_buildSlice (cs := [.int .i64 b.who, .int .i64 b.way, .int .i64 b.most]) [.int .i64 0, .int .i64 0, .int .i64 0] Try.underlying32 Try.sizeOf53 Try.zeroValue53 rfl rfl (by kernel_rfl) (by kernel_rfl) rfl (fun b30 => ?_)
      refine oj_nil ?_
      refine ej_pl (lt_y (y_sliceR (xs := out) (mixAt bits k) out.length Try.underlying32 Try.sizeOf53 rfl rfl rfl (by omega) (Nat.le_refl _) hcap) rfl (lt_y (y_move rfl) rfl (lt_y (y_move rfl) rfl (lt_w (by kernel_rfl) (lt_y (y_ixR (reads_sl) Try.underlying32 Try.sizeOf53 rfl rfl (⟨by omega, by omega⟩)) rfl (lt_y (y_move rfl) rfl (lt_y (y_move rfl) rfl (lt_y (y_sliceR (xs := out) 0 (mixAt bits k) Try.underlying32 Try.sizeOf53 rfl rfl rfl (Nat.zero_le _) (by omega) hcap) rfl (lt_y (y_move rfl) rfl (lt_y (y_move rfl) rfl (lt_y (y_move rfl) rfl (lt_nil)))))))))))) ?_
      refine pl_w1 4 (by kernel_rfl) rfl rfl (pl_fire rfl rfl rfl (by kernel_rfl) ?_)
      refine oj_append (xs := ([] : List BidV)) (ys := (out.take (mixAt bits k)).drop 0) (c := 0) el32 (fun _ => rfl) encBi_one rfl rfl rfl (reads_sub (reads_ow (xs := out) encBi_len) 0 (mixAt bits k) hcap) (by unfold maxLen; simp only [List.length_nil, List.length_drop, List.length_take]; omega) (by simp only [List.length_nil, List.length_drop, List.length_take]; omega) rfl (fun A25 c25 => ?_)
      refine oj_nil ?_
      refine ej_pl (lt_y (y_sliceR (xs := out) (mixAt bits k) out.length Try.underlying32 Try.sizeOf53 rfl rfl rfl (by omega) (Nat.le_refl _) hcap) rfl (lt_y (y_move rfl) rfl (lt_y (y_move rfl) rfl (lt_y (y_ldW (reads_sl) Try.isAgg53 Try.sizeOf53 rfl (hx) (fun _ => rfl)) rfl (lt_y (y_ixR (reads_sl) Try.underlying32 Try.sizeOf53 rfl rfl (⟨by omega, by omega⟩)) rfl (lt_y (y_move rfl) rfl (lt_y (y_move rfl) rfl (lt_w (by kernel_rfl) (lt_y (y_move rfl) rfl (lt_y (y_move rfl) rfl (lt_w (by kernel_rfl) (lt_nil)))))))))))) ?_
      refine pl_w1 10 (by kernel_rfl) rfl rfl (pl_fire rfl rfl rfl (by kernel_rfl) ?_)
      refine oj_append (xs := ([] : List BidV) ++ (out.take (mixAt bits k)).drop 0) el32 (fun _ => rfl) encBi_one rfl rfl rfl (reads_lit [b] (fun _ => rfl) rfl) (by unfold maxLen; simp only [List.length_nil, List.length_cons, List.length_append, List.length_drop, List.length_take]; omega) (by simp only [List.length_nil, List.length_cons, List.length_append, List.length_drop, List.length_take]; omega) rfl (fun A31 c31 => ?_)
      refine oj_nil ?_
      refine ej_pl (lt_y (y_sliceR (xs := out) (mixAt bits k) out.length Try.underlying32 Try.sizeOf53 rfl rfl rfl (by omega) (Nat.le_refl _) hcap) rfl (lt_y (y_move rfl) rfl (lt_y (y_move rfl) rfl (lt_y (y_ldW (reads_sl) Try.isAgg53 Try.sizeOf53 rfl (hx) (fun _ => rfl)) rfl (lt_y (y_ixR (reads_sl) Try.underlying32 Try.sizeOf53 rfl rfl (⟨by omega, by omega⟩)) rfl (lt_y (y_move rfl) rfl (lt_y (y_move rfl) rfl (lt_y (y_sliceR (xs := out) 0 (mixAt bits k) Try.underlying32 Try.sizeOf53 rfl rfl rfl (Nat.zero_le _) (by omega) hcap) rfl (lt_y (y_move rfl) rfl (lt_y (y_move rfl) rfl (lt_y (y_move rfl) rfl (lt_nil)))))))))))) ?_
      refine pl_w1 14 (by kernel_rfl) rfl rfl (pl_fire rfl rfl rfl (by kernel_rfl) ?_)
      refine oj_append (xs := (([] : List BidV) ++ (out.take (mixAt bits k)).drop 0) ++ [b]) (ys := (out.take out.length).drop (mixAt bits k)) el32 (fun _ => rfl) encBi_one rfl rfl rfl (reads_sub (reads_ow (xs := out) encBi_len) (mixAt bits k) out.length hcap) (by unfold maxLen; simp only [List.length_nil, List.length_cons, List.length_append, List.length_drop, List.length_take]; omega) (by simp only [List.length_nil, List.length_cons, List.length_append, List.length_drop, List.length_take]; omega) rfl (fun A35 c35 => ?_)
      refine oj_nil ?_
      refine ej_pl (lt_w (by kernel_rfl) (lt_y (y_move rfl) rfl (lt_y (y_move rfl) rfl (lt_y (y_ldW (reads_sl) Try.isAgg53 Try.sizeOf53 rfl (hx) (fun _ => rfl)) rfl (lt_y (y_ixR (reads_sl) Try.underlying32 Try.sizeOf53 rfl rfl (⟨by omega, by omega⟩)) rfl (lt_y (y_move rfl) rfl (lt_y (y_move rfl) rfl (lt_y (y_sliceR (xs := out) 0 (mixAt bits k) Try.underlying32 Try.sizeOf53 rfl rfl rfl (Nat.zero_le _) (by omega) hcap) rfl (lt_y (y_move rfl) rfl (lt_y (y_move rfl) rfl (lt_y (y_move rfl) rfl (lt_nil)))))))))))) ?_
      refine pl_y 15 rfl (y_assign rfl) rfl rfl rfl rfl (by kernel_rfl) ?_
      refine pl_end (by kernel_rfl) ?_
      refine ej_blk (ej_th ?_)
      refine cj_regionG (gj_step (y_move rfl) rfl rfl rfl (gj_step (y_add rfl rfl (by omega)) rfl rfl rfl (gj_step (y_assign rfl) rfl rfl rfl (gj_nil ?_))))
      obtain ⟨o2, ho2⟩ : ∃ o2, o2 = ((([] : List BidV) ++ (out.take (mixAt bits k)).drop 0) ++ [b]) ++ (out.take out.length).drop (mixAt bits k) := ⟨_, rfl⟩
      have hoe : o2 = mixS bits out k b := by rw [ho2]; simp [mixS]
      rw [← ho2]
      refine ej_takes [ow 53 3 encBi A35 c35 o2] ?_
      exact ej_nx (k + 1, A35, c35, o2) (by simp only; omega) ⟨by first | omega | (simp only; omega), by rw [hoe, mixS_len, hol], by rw [hoe]; exact hout⟩ ⟨rfl, rfl, rfl, rfl, rfl, trivial⟩
  · have h12b := h12
    try simp only [sxb] at h12
    rw [List.drop_of_length_le (by omega)] at hout
    have hout : out = (mixG bits bs 0 []) := hout
    refine cj_exit (ej_then_exit (ej_then_exit (ej_blk_hit (ej_th (cj_seq ?_)))))
    refine cj_regionG (gj_step (y_move rfl) rfl rfl rfl (gj_step (y_assign rfl) rfl rfl rfl (gj_nil ?_)))
    refine ej_th (cj_ret ?_)
    exact ej_ret1 rfl Try.results29 rfl (fun w' hp => ⟨A1, c1, by rw [hout], hp.below, by rw [← hout]; exact hp.res (fun _ => rfl) (by unfold maxLen; omega)⟩)

theorem k_floor (st rv : Int) (lad : List RiseV) (Al : Option Addr) (cl : Nat) (w : World) (hlad : Rd w 2 encRi Al lad) (hyes : lotB st rv lad = true) : Calls Try.prog 30 #[.agg #[.int .i64 st, .int .i64 rv, .slice Al lad.length cl]] w (fun e w' => e = .returned (.tuple #[.int .i64 (floorF (rgL lad st) st rv).1, .bool (floorF (rgL lad st) st rv).2]) ∧ Grow w w') := by
  have hok := lot_ok hyes
  have hb1 := rung_bd hok rv
  have hb2 := beh_bd hok (rungR st lad rv)
  have hV : RungV st rv lad rv = rungR st lad rv := by unfold RungV; rw [if_pos hyes]
  refine enter_pure (args := [.agg #[.int .i64 st, .int .i64 rv, .slice Al lad.length cl]]) [sl (fun b => b < w.heap.size) 2 encRi Al lad] Try.func30 rfl (by rw [Try.ntmps30]; simp) (fun g hg => by simp at hg; subst hg; exact ⟨hlad, fun _ h => h⟩) ?_
  refine cj_seq (cj_region ?_)
  refine oj_box rfl rfl rfl (fun b1 => ?_)
  refine oj_step (y_assign rfl) rfl rfl rfl ?_
  refine oj_step (y_assign rfl) rfl rfl rfl ?_
  refine oj_nil ?_
  refine ej_th (cj_seq (cj_seq ?_))
  refine cj_regionG (gj_step (y_fa fa24_1 rfl) rfl rfl rfl (gj_step (y_load1 Try.isAgg3 rfl rfl) rfl rfl rfl (gj_step (y_fa0 fa24_0 rfl) rfl rfl rfl (gj_step (y_load1 Try.isAgg3 rfl rfl) rfl rfl rfl (gj_step (y_leq rfl rfl) rfl rfl rfl (gj_nil ?_))))))
  refine ej_th ?_
  refine cj_cond rfl (fun h10 => ?_) (fun h10 => ?_)
  · have h10b := h10
    try simp only [sxb] at h10
    have hfl : floorF (rgL lad st) st rv = (st, true) := by unfold floorF; rw [if_pos (by omega)]
    refine cj_seq ?_
    refine cj_regionG (gj_step (y_fa0 fa24_0 rfl) rfl rfl rfl (gj_step (y_load1 Try.isAgg3 rfl rfl) rfl rfl rfl (gj_step (y_assign rfl) rfl rfl rfl (gj_step (y_assign rfl) rfl rfl rfl (gj_nil ?_)))))
    refine ej_th (cj_ret (ej_then_ret ?_))
    refine ej_ret2 rfl Try.results30 rfl rfl (fun w' hp => ⟨?_, hp.below⟩)
    rw [hfl]
  · have h10b := h10
    try simp only [sxb] at h10
    have hle : ¬ rv ≤ st := by omega
    have e0 : floorF (rgL lad st) st rv = (if rungR st lad rv = 0 then (0, false) else if rungR st lad rv < rv then (behF (rungR st lad rv) (rgL lad st), !(behF (rungR st lad rv) (rgL lad st) == 0)) else (rungR st lad rv, true)) := by unfold floorF; rw [if_neg hle]; rfl
    refine cj_skip (ej_th (cj_seq ?_))
    refine cj_regionG ?_
    refine gj_step (y_loadN Try.isAgg24 Try.sizeOf24 rfl) rfl rfl rfl (gj_step (y_fa fa24_1 rfl) rfl rfl rfl (gj_step (y_load1 Try.isAgg3 rfl rfl) rfl rfl rfl (?_)))
    refine gj_step (y_call Try.call15 rfl (fun w hp => k_Rung st rv lad Al cl rv w hp.rd)) rfl rfl rfl ?_
    refine gj_step (y_move rfl) rfl rfl rfl (gj_step (y_extract rfl rfl) rfl rfl rfl (gj_step (y_extract rfl rfl) rfl rfl rfl (gj_step (y_assign rfl) rfl rfl rfl (gj_step (y_assign rfl) rfl rfl rfl (?_)))))
    refine gj_nil ?_
    refine ej_th ?_
    refine cj_cuti (X := Int × Int) [(2, _), (3, _)] ⟨rfl, rfl, trivial⟩ (fun ⟨n, e⟩ => floorF (rgL lad st) st rv = (n, e == 0)) (fun ⟨n, e⟩ => [(4, .int .i64 n), (5, .int .i64 e)]) (fun ⟨n, e⟩ => [ownB b1 (cellsB 24 [.int .i64 st, .int .i64 rv, .slice Al lad.length cl])]) (fun ⟨n, e⟩ => [sl (fun b => b < w.heap.size) 2 encRi Al lad]) ?_ ?_
    · refine cj_seq ?_
      refine cj_regionG (gj_step (y_move rfl) rfl rfl rfl (gj_step (y_eql rfl rfl) rfl rfl rfl (gj_step (y_move rfl) rfl rfl rfl (gj_g 4 22 26 rfl rfl rfl rfl (fun hg22 => gj_yes rfl rfl rfl (y_move rfl) rfl rfl (gj_yes rfl rfl rfl (y_fa fa24_1 rfl) rfl rfl (gj_yes rfl rfl rfl (y_load1 Try.isAgg3 rfl rfl) rfl rfl (gj_yes rfl rfl rfl (y_lss rfl rfl) rfl rfl (gj_nil rfl))))) (gj_step (y_and rfl rfl rfl) rfl rfl rfl (gj_nil ?_))))))
      refine ej_th ?_
      refine cj_cond rfl (fun h27 => ?_) (fun h27 => ?_)
      · have h27b := h27
        try simp only [sxb] at h27
        have h9 : ((RungE st rv lad rv == 0) && decide (RungV st rv lad rv < rv)) = true := h27b
        rw [Bool.and_eq_true, beq_iff_eq, decide_eq_true_iff, hV] at h9
        have hpos : 0 < rungR st lad rv := by
          have h8 := h9.1
          unfold RungE at h8
          rw [if_pos hyes] at h8
          split at h8
          · assumption
          · cases h8
        refine cj_regionG ?_
        refine gj_step (y_loadN Try.isAgg24 Try.sizeOf24 rfl) rfl rfl rfl (gj_step (y_move rfl) rfl rfl rfl (?_))
        refine gj_step (y_call Try.call19 rfl (fun w hp => k_Next st rv lad Al cl (RungV st rv lad rv) w hp.rd)) rfl rfl rfl ?_
        refine gj_step (y_move rfl) rfl rfl rfl (gj_step (y_extract rfl rfl) rfl rfl rfl (gj_step (y_extract rfl rfl) rfl rfl rfl (gj_step (y_assign rfl) rfl rfl rfl (gj_step (y_assign rfl) rfl rfl rfl (?_)))))
        refine gj_nil ?_
        exact ej_ct (NextV st rv lad (RungV st rv lad rv), NextE st rv lad (RungV st rv lad rv)) (by
          have hrr : rungR st lad (rungR st lad rv) = rungR st lad rv := rung_idem hok hpos
          rw [e0, if_neg (by omega), if_pos h9.2]
          unfold NextV NextE
          rw [hV, hrr, if_pos ⟨hyes, hpos, rfl⟩, if_pos hyes, if_pos ⟨hpos, rfl⟩]
          by_cases h0 : behF (rungR st lad rv) (rgL lad st) = 0
          · rw [h0]; rfl
          · rw [if_pos (by omega), show (behF (rungR st lad rv) (rgL lad st) == 0) = false by simpa using h0]; rfl) ⟨rfl, rfl, rfl, rfl, trivial⟩
      · have h27b := h27
        try simp only [sxb] at h27
        have h9 : ((RungE st rv lad rv == 0) && decide (RungV st rv lad rv < rv)) = false := h27b
        rw [Bool.and_eq_false_iff, beq_eq_false_iff_ne, decide_eq_false_iff_not, hV] at h9
        refine cj_skip ?_
        exact ej_ct (RungV st rv lad rv, RungE st rv lad rv) (by
          rw [e0, hV]
          by_cases h0 : rungR st lad rv = 0
          · have he : RungE st rv lad rv = 4 := by unfold RungE; rw [if_pos hyes, if_neg (by omega)]
            rw [if_pos h0, he, h0]; rfl
          · have he : RungE st rv lad rv = 0 := by unfold RungE; rw [if_pos hyes, if_pos (by omega)]
            rw [if_neg h0, if_neg (h9.resolve_left (by rw [he]; simp)), he]; rfl) ⟨rfl, rfl, rfl, rfl, trivial⟩
    · rintro ⟨n, e⟩ hfl
      dsimp only [List.cons_append, List.nil_append]
      refine cj_seq ?_
      refine cj_regionG (gj_step (y_move rfl) rfl rfl rfl (gj_step (y_move rfl) rfl rfl rfl (gj_step (y_eql rfl rfl) rfl rfl rfl (gj_step (y_assign rfl) rfl rfl rfl (gj_step (y_assign rfl) rfl rfl rfl (gj_nil ?_))))))
      refine ej_th (cj_ret ?_)
      refine ej_ret2 rfl Try.results30 rfl rfl (fun w' hp => ⟨?_, hp.below⟩)
      rw [hfl]

set_option maxHeartbeats 4000000 in
theorem k_AuctionOrder (st rv : Int) (lad : List RiseV) (Al : Option Addr) (cl : Nat) (bs : List BidV) (Ab : Option Addr) (cb : Nat) (bits : List Int) (Ai : Option Addr) (ci : Nat) (w : World) (hlad : Rd w 2 encRi Al lad) (hbs : Rd w 3 encBi Ab bs) (hb24 : bs.length * 24 ≤ 140737488351232) (hbi : Rd w 1 enInt Ai bits) (hbi8 : bits.length * 8 ≤ 140737488351232) : Calls Try.prog 6 #[.agg #[.int .i64 st, .int .i64 rv, .slice Al lad.length cl], .slice Ab bs.length cb, .slice Ai bits.length ci] w (fun e w' => e = .returned (.bool true) ∧ Grow w w') := by
  have hmp := mixed_perm bits bs
  have hse := sellE_perm (st := st) (rv := rv) (lad := lad) hmp
  have hsv := sellV_perm (st := st) (rv := rv) (lad := lad) hmp
  have hrl := roomL_len_perm (st := st) (rv := rv) (lad := lad) hmp
  refine enter_pure (args := [.agg #[.int .i64 st, .int .i64 rv, .slice Al lad.length cl], .slice Ab bs.length cb, .slice Ai bits.length ci]) [sl (fun b => b < w.heap.size) 2 encRi Al lad, sl (fun b => b < w.heap.size) 3 encBi Ab bs, sl (fun b => b < w.heap.size) 1 enInt Ai bits] Try.func6 rfl (by rw [Try.ntmps6]; simp) (fun g hg => by simp at hg; rcases hg with rfl | rfl | rfl; exact ⟨hlad, fun _ h => h⟩; exact ⟨hbs, fun _ h => h⟩; exact ⟨hbi, fun _ h => h⟩) ?_
  refine cj_seq (cj_region ?_)
  refine oj_box rfl rfl rfl (fun b3 => ?_)
  refine oj_step (y_assign rfl) rfl rfl rfl ?_
  refine oj_nil ?_
  refine ej_th (cj_seq (cj_region ?_))
  refine oj_step (y_loadN Try.isAgg24 Try.sizeOf24 rfl) rfl rfl rfl ?_
  refine oj_step (y_move rfl) rfl rfl rfl ?_
  refine oj_callS (fun A c => .tuple #[.slice A (RoomL st rv lad bs).length c, .int .i64 (SellE st rv lad bs)]) 5 encLe (RoomL st rv lad bs) Try.call24 rfl (fun w hp => k_Room st rv lad Al cl bs Ab cb w hp.rd hp.rd) rfl (fun A21 c21 fp21 hfp21 => ?_)
  refine oj_step (y_move rfl) rfl rfl rfl ?_
  refine oj_step (y_extract rfl rfl) rfl rfl rfl ?_
  refine oj_step (y_extract rfl rfl) rfl rfl rfl ?_
  refine oj_step (y_assign rfl) rfl rfl rfl ?_
  refine oj_step (y_assign rfl) rfl rfl rfl ?_
  refine oj_nil ?_
  refine ej_th (cj_seq ?_)
  refine cj_plan 10 (by kernel_rfl) (by kernel_rfl) ?_
  refine pl_y 0 rfl (y_loadN Try.isAgg24 Try.sizeOf24 rfl) rfl rfl rfl rfl (by kernel_rfl) ?_
  refine pl_y 1 rfl (y_move rfl) rfl rfl rfl rfl (by kernel_rfl) ?_
  refine pl_y 2 rfl (y_move rfl) rfl rfl rfl rfl (by kernel_rfl) ?_
  refine pl_w1 3 (by kernel_rfl) rfl rfl (pl_fire rfl rfl rfl (by kernel_rfl) ?_)
  refine oj_callS (fun A c => .slice A (mixG bits bs 0 []).length c) 3 encBi (mixG bits bs 0 []) Try.call29 rfl (fun w hp => k_mixed bs Ab cb bits Ai ci w hp.rd hb24 hp.rd hbi8) rfl (fun A28 c28 fp28 hfp28 => ?_)
  refine oj_nil ?_
  refine ej_pl (lt_w (by kernel_rfl) (lt_w (by kernel_rfl) (lt_y (y_loadN Try.isAgg24 Try.sizeOf24 rfl) rfl (lt_nil)))) ?_
  refine pl_w1 4 (by kernel_rfl) rfl rfl (pl_fire rfl rfl rfl (by kernel_rfl) ?_)
  refine oj_callS (fun A c => .tuple #[.slice A (RoomL st rv lad (mixG bits bs 0 [])).length c, .int .i64 (SellE st rv lad (mixG bits bs 0 []))]) 5 encLe (RoomL st rv lad (mixG bits bs 0 [])) Try.call24 rfl (fun w hp => k_Room st rv lad Al cl (mixG bits bs 0 []) A28 c28 w hp.rd hp.rd) rfl (fun A29 c29 fp29 hfp29 => ?_)
  refine oj_nil ?_
  refine ej_pl (lt_y (y_move rfl) rfl (lt_y (y_move rfl) rfl (lt_w (by kernel_rfl) (lt_nil)))) ?_
  refine pl_y 5 rfl (y_move rfl) rfl rfl rfl rfl (by kernel_rfl) ?_
  refine pl_y 6 rfl (y_extract rfl rfl) rfl rfl rfl rfl (by kernel_rfl) ?_
  refine pl_y 7 rfl (y_extract rfl rfl) rfl rfl rfl rfl (by kernel_rfl) ?_
  refine pl_y 8 rfl (y_assign rfl) rfl rfl rfl rfl (by kernel_rfl) ?_
  refine pl_y 9 rfl (y_assign rfl) rfl rfl rfl rfl (by kernel_rfl) ?_
  refine pl_end (by kernel_rfl) ?_
  refine ej_th (cj_seq (cj_region ?_))
  refine oj_step (y_loadN Try.isAgg24 Try.sizeOf24 rfl) rfl rfl rfl ?_
  refine oj_step (y_move rfl) rfl rfl rfl ?_
  refine oj_step (y_call Try.call22 rfl (fun w hp => k_Sell st rv lad Al cl bs Ab cb w hp.rd hp.rd)) rfl rfl rfl ?_
  refine oj_step (y_move rfl) rfl rfl rfl ?_
  refine oj_step (y_extract rfl rfl) rfl rfl rfl ?_
  refine oj_step (y_extract rfl rfl) rfl rfl rfl ?_
  refine oj_alloc Try.zeroValue34 rfl rfl (fun b11 => ?_)
  refine oj_store rfl rfl rfl rfl Try.sizeOf34 rfl ?_
  refine oj_step (y_assign rfl) rfl rfl rfl ?_
  refine oj_nil ?_
  refine ej_th (cj_seq ?_)
  refine cj_plan 11 (by kernel_rfl) (by kernel_rfl) ?_
  refine pl_y 0 rfl (y_loadN Try.isAgg24 Try.sizeOf24 rfl) rfl rfl rfl rfl (by kernel_rfl) ?_
  refine pl_y 1 rfl (y_move rfl) rfl rfl rfl rfl (by kernel_rfl) ?_
  refine pl_y 2 rfl (y_move rfl) rfl rfl rfl rfl (by kernel_rfl) ?_
  refine pl_w2 3 8 (by kernel_rfl) rfl rfl (pl_fire rfl rfl rfl (by kernel_rfl) ?_) (pl_fire rfl rfl rfl (by kernel_rfl) ?_)
  · refine oj_callS (fun A c => .slice A (mixG bits bs 0 []).length c) 3 encBi (mixG bits bs 0 []) Try.call29 rfl (fun w hp => k_mixed bs Ab cb bits Ai ci w hp.rd hb24 hp.rd hbi8) rfl (fun A42 c42 fp42 hfp42 => ?_)
    refine oj_nil ?_
    refine ej_pl (lt_w (by kernel_rfl) (lt_w (by kernel_rfl) (lt_y (y_loadN Try.isAgg24 Try.sizeOf24 rfl) rfl (lt_nil)))) ?_
    refine pl_y 4 rfl (y_call Try.call22 rfl (fun w hp => k_Sell st rv lad Al cl (mixG bits bs 0 []) A42 c42 w hp.rd hp.rd)) rfl rfl rfl rfl (by kernel_rfl) ?_
    refine pl_y 5 rfl (y_move rfl) rfl rfl rfl rfl (by kernel_rfl) ?_
    refine pl_y 6 rfl (y_extract rfl rfl) rfl rfl rfl rfl (by kernel_rfl) ?_
    refine pl_y 7 rfl (y_extract rfl rfl) rfl rfl rfl rfl (by kernel_rfl) ?_
    refine pl_w1 8 (by kernel_rfl) rfl rfl (pl_fire rfl rfl rfl (by kernel_rfl) ?_)
    refine oj_alloc Try.zeroValue34 rfl rfl (fun b13 => ?_)
    refine oj_nil ?_
    refine ej_pl (lt_y (y_extract rfl rfl) rfl (lt_y (y_extract rfl rfl) rfl (lt_y (y_move rfl) rfl (lt_y (y_call Try.call22 rfl (fun w hp => k_Sell st rv lad Al cl (mixG bits bs 0 []) A42 c42 w hp.rd hp.rd)) rfl (lt_y (y_move rfl) rfl (lt_y (y_move rfl) rfl (lt_y (y_loadN Try.isAgg24 Try.sizeOf24 rfl) rfl (lt_nil)))))))) ?_
    refine pl_w1 9 (by kernel_rfl) rfl rfl (pl_fire rfl rfl rfl (by kernel_rfl) ?_)
    refine oj_store rfl rfl rfl rfl Try.sizeOf34 rfl ?_
    refine oj_nil ?_
    refine ej_pl (lt_y (y_extract rfl rfl) rfl (lt_w (by kernel_rfl) (lt_w (by kernel_rfl) (lt_w (by kernel_rfl) (lt_w (by kernel_rfl) (lt_w (by kernel_rfl) (lt_w (by kernel_rfl) (lt_nil)))))))) ?_
    refine pl_y 10 rfl (y_assign rfl) rfl rfl rfl rfl (by kernel_rfl) ?_
    refine pl_end (by kernel_rfl) ?_
    refine ej_th (cj_seq (cj_seq ?_))
    refine cj_regionG (gj_step (y_move rfl) rfl rfl rfl (gj_step (y_move rfl) rfl rfl rfl (gj_step (y_neq rfl rfl) rfl rfl rfl (gj_step (y_move rfl) rfl rfl rfl (gj_g 3 49 52 rfl rfl rfl rfl (fun hg49 => gj_yes rfl rfl rfl (y_move rfl) rfl rfl (gj_yes rfl rfl rfl (y_move rfl) rfl rfl (gj_yes rfl rfl rfl (y_neq rfl rfl) rfl rfl (gj_nil rfl)))) (gj_step (y_or rfl rfl rfl) rfl rfl rfl (gj_step (y_move rfl) rfl rfl rfl (gj_g 3 54 57 rfl rfl rfl rfl (fun hg54 => gj_yes rfl rfl rfl (y_move rfl) rfl rfl (gj_yes rfl rfl rfl (y_move rfl) rfl rfl (gj_yes rfl rfl rfl (y_neq rfl rfl) rfl rfl (gj_nil rfl)))) (gj_step (y_or rfl rfl rfl) rfl rfl rfl (gj_step (y_move rfl) rfl rfl rfl (gj_g 3 59 62 rfl rfl rfl rfl (fun hg59 => gj_yes rfl rfl rfl (y_loadN Try.isAgg34 Try.sizeOf34 rfl) rfl rfl (gj_yes rfl rfl rfl (y_loadN Try.isAgg34 Try.sizeOf34 rfl) rfl rfl (gj_yes rfl rfl rfl (y_bin rfl rfl (fun x y w => ne34 _ _ _ _ x y w)) rfl rfl (gj_nil rfl)))) (gj_step (y_or rfl rfl rfl) rfl rfl rfl (gj_step (y_move rfl) rfl rfl rfl (gj_g 5 64 69 rfl rfl rfl rfl (fun hg64 => gj_yes rfl rfl rfl (y_move rfl) rfl rfl (gj_yes rfl rfl rfl (y_lenA Try.underlying37 rfl) rfl rfl (gj_yes rfl rfl rfl (y_move rfl) rfl rfl (gj_yes rfl rfl rfl (y_lenA Try.underlying37 rfl) rfl rfl (gj_yes rfl rfl rfl (y_neq rfl rfl) rfl rfl (gj_nil rfl)))))) (gj_step (y_or rfl rfl rfl) rfl rfl rfl (gj_nil ?_))))))))))))))))
    refine ej_th ?_
    refine cj_cond rfl (fun h70 => ?_) (fun h70 => ?_)
    · rw [hse, hsv, hrl] at h70
      exact absurd h70 (by simp)
    · have h70b := h70
      try simp only [sxb] at h70
      refine cj_skip (ej_th (cj_seq (cj_seq ?_)))
      refine cj_regionG (gj_step (y_move rfl) rfl rfl rfl (gj_step (y_neq rfl rfl) rfl rfl rfl (gj_step (y_move rfl) rfl rfl rfl (gj_g 3 73 76 rfl rfl rfl rfl (fun hg73 => gj_yes rfl rfl rfl (y_move rfl) rfl rfl (gj_yes rfl rfl rfl (y_lenA Try.underlying37 rfl) rfl rfl (gj_yes rfl rfl rfl (y_eql rfl rfl) rfl rfl (gj_nil rfl)))) (gj_step (y_or rfl rfl rfl) rfl rfl rfl (gj_nil ?_))))))
      refine ej_th ?_
      refine cj_cond rfl (fun h77 => ?_) (fun h77 => ?_)
      · have h77b := h77
        try simp only [sxb] at h77
        have h9 : ((SellE st rv lad bs != 0) || (((RoomL st rv lad bs).length : Int) == 0)) = true := h77b
        have hfin : SellE st rv lad bs = 0 ∧ SellV st rv lad bs = ⟨-1, 0⟩ ∨ SellE st rv lad bs ≠ 0 ∧ SellV st rv lad bs = ⟨0, 0⟩ := by
          by_cases h0 : SellE st rv lad bs = 0
          · left
            rw [h0] at h9
            exact ⟨h0, room_nil h0 (by simpa using h9)⟩
          · exact .inr ⟨h0, sellE_ne h0⟩
        refine cj_seq ?_
        refine cj_regionG ?_
        refine gj_step (y_move rfl) rfl rfl rfl (gj_step (y_eql rfl rfl) rfl rfl rfl (gj_step (y_move rfl) rfl rfl rfl (?_)))
        refine gj_g 3 80 83 rfl rfl rfl rfl (fun hg80 => gj_yes rfl rfl rfl (y_loadN Try.isAgg34 Try.sizeOf34 rfl) rfl rfl (gj_yes rfl rfl rfl (y_build (cs := [.int .i64 (-1), .int .i64 0]) st34 rfl (by kernel_rfl)) rfl rfl (gj_yes rfl rfl rfl (y_bin rfl rfl (fun x y w => eq34 _ _ _ _ x y w)) rfl rfl (gj_nil rfl)))) ?_
        refine gj_step (y_and rfl rfl rfl) rfl rfl rfl (gj_step (y_move rfl) rfl rfl rfl (?_))
        refine gj_g 7 85 92 rfl rfl rfl rfl (fun hg85 => gj_yes rfl rfl rfl (y_move rfl) rfl rfl (gj_yes rfl rfl rfl (y_neq rfl rfl) rfl rfl (gj_yes rfl rfl rfl (y_move rfl) rfl rfl (gj_g 3 88 91 rfl rfl rfl rfl (fun hg88 => gj_yes rfl rfl rfl (y_loadN Try.isAgg34 Try.sizeOf34 rfl) rfl rfl (gj_yes rfl rfl rfl (y_build st34 rfl rfl) rfl rfl (gj_yes rfl rfl rfl (y_bin rfl rfl (fun x y w => eq34 _ _ _ _ x y w)) rfl rfl (gj_nil rfl)))) (gj_yes rfl rfl rfl (y_and rfl rfl rfl) rfl rfl (gj_nil rfl)))))) ?_
        refine gj_step (y_or rfl rfl rfl) rfl rfl rfl (gj_step (y_move rfl) rfl rfl rfl (?_))
        refine gj_g 1 94 95 rfl rfl rfl rfl (fun hg94 => gj_yes rfl rfl rfl (y_call Try.call21 rfl (fun w hp => k_works w)) rfl rfl (gj_nil rfl)) ?_
        refine gj_step (y_and rfl rfl rfl) rfl rfl rfl (gj_step (y_assign rfl) rfl rfl rfl (?_))
        refine gj_nil ?_
        refine ej_th (cj_ret (ej_then_ret ?_))
        refine ej_ret1 rfl Try.results6 rfl (fun w' hp => ⟨?_, hp.below⟩)
        rcases hfin with ⟨h1, h2⟩ | ⟨h1, h2⟩
        · rw [h1, h2]; rfl
        · rw [h2, show (SellE st rv lad bs == 0) = false by simpa using h1, show (SellE st rv lad bs != 0) = true by simpa using h1]; rfl
      · have h77b := h77
        try simp only [sxb] at h77
        have h9 : ((SellE st rv lad bs != 0) || (((RoomL st rv lad bs).length : Int) == 0)) = false := h77b
        rw [Bool.or_eq_false_iff] at h9
        have h0 : SellE st rv lad bs = 0 := by simpa using h9.1
        have hyes := (sellE_0 h0).1
        obtain ⟨n, hn⟩ : ∃ n, n + 1 = (RoomL st rv lad bs).length := ⟨(RoomL st rv lad bs).length - 1, by have := h9.2; simp at this; omega⟩
        have hl1 := room_last h0 hn
        have hl2 := room_last_perm hmp h0 hn
        have hlx : (RoomL st rv lad bs)[(((RoomL st rv lad bs).length : Int) - 1).toNat]? = some (roomE (rgL lad st) st bs) := by rw [show (((RoomL st rv lad bs).length : Int) - 1).toNat = n by omega]; exact hl1
        have hly : (RoomL st rv lad (mixG bits bs 0 []))[(((RoomL st rv lad (mixG bits bs 0 [])).length : Int) - 1).toNat]? = some (roomE (rgL lad st) st bs) := by rw [show (((RoomL st rv lad (mixG bits bs 0 [])).length : Int) - 1).toNat = n by omega]; exact hl2
        have hfl := floorR hyes
        have hsl := sell_lead h0
        obtain ⟨x, hxe⟩ : ∃ x, x = (roomE (rgL lad st) st bs) := ⟨_, rfl⟩
        rw [← hxe] at hlx hly hsl
        refine cj_get (fun w1 hp => (show Rd w1 5 encLe A21 (RoomL st rv lad bs) from hp.rd).len) (fun hrl9 => ?_)
        refine cj_skip (ej_th (cj_seq (cj_region ?_)))
        refine oj_step (y_move rfl) rfl rfl rfl ?_
        refine oj_step (y_move rfl) rfl rfl rfl ?_
        refine oj_step (y_lenA Try.underlying37 rfl) rfl rfl rfl ?_
        refine oj_step (y_sub rfl rfl (by omega)) rfl rfl rfl ?_
        refine oj_step (y_ixR (reads_sl) Try.underlying37 Try.sizeOf41 rfl rfl (⟨by omega, by omega⟩)) rfl rfl rfl ?_
        refine oj_step (y_ldW (reads_sl) Try.isAgg41 Try.sizeOf41 rfl (hlx) (fun _ => rfl)) rfl rfl rfl ?_
        refine oj_alloc Try.zeroValue41 rfl rfl (fun b15 => ?_)
        refine oj_store rfl rfl rfl rfl Try.sizeOf41 rfl ?_
        refine oj_nil ?_
        refine ej_th (cj_seq (cj_seq ?_))
        refine cj_draw (by kernel_rfl) (by kernel_rfl) (gj_step (y_loadN Try.isAgg41 Try.sizeOf41 rfl) rfl rfl rfl (gj_step (y_move rfl) rfl rfl rfl (gj_step (y_move rfl) rfl rfl rfl (gj_step (y_lenA Try.underlying37 rfl) rfl rfl rfl (gj_step (y_sub rfl rfl (by omega)) rfl rfl rfl (gj_step (y_ixR (reads_sl) Try.underlying37 Try.sizeOf41 rfl rfl (⟨by omega, by omega⟩)) rfl rfl rfl (gj_step (y_ldW (reads_sl) Try.isAgg41 Try.sizeOf41 rfl (hly) (fun _ => rfl)) rfl rfl rfl (gj_step (y_bin rfl rfl (fun x y w => ne41 _ _ _ _ _ _ _ _ _ _ x y w)) rfl rfl rfl (gj_nil ?_)))))))))
        refine ej_th ?_
        refine cj_cond rfl (fun h110 => ?_) (fun h110 => ?_)
        · exact absurd h110 (by simp)
        · have h110b := h110
          try simp only [sxb] at h110
          refine cj_skip (ej_th (cj_seq ?_))
          refine cj_regionG ?_
          refine gj_step (y_loadN Try.isAgg24 Try.sizeOf24 rfl) rfl rfl rfl (?_)
          refine gj_step (y_call Try.call30 rfl (fun w hp => k_floor st rv lad Al cl w hp.rd hyes)) rfl rfl rfl ?_
          refine gj_step (y_move rfl) rfl rfl rfl (gj_step (y_extract rfl rfl) rfl rfl rfl (gj_step (y_extract rfl rfl) rfl rfl rfl (gj_step (y_assign rfl) rfl rfl rfl (gj_step (y_assign rfl) rfl rfl rfl (?_)))))
          refine gj_nil ?_
          refine ej_th (cj_seq (cj_seq ?_))
          rw [hfl]
          refine cj_regionG (gj_step (y_fa0 fa41_0 rfl) rfl rfl rfl (gj_step (y_load1 Try.isAgg3 rfl rfl) rfl rfl rfl (gj_step (y_eql rfl rfl) rfl rfl rfl (gj_step (y_move rfl) rfl rfl rfl (gj_g 2 119 121 rfl rfl rfl rfl (fun hg119 => gj_yes rfl rfl rfl (y_move rfl) rfl rfl (gj_yes rfl rfl rfl (y_not rfl) rfl rfl (gj_nil rfl))) (gj_step (y_or rfl rfl rfl) rfl rfl rfl (gj_step (y_move rfl) rfl rfl rfl (gj_g 4 123 127 rfl rfl rfl rfl (fun hg123 => gj_yes rfl rfl rfl (y_fa fa41_1 rfl) rfl rfl (gj_yes rfl rfl rfl (y_load1 Try.isAgg3 rfl rfl) rfl rfl (gj_yes rfl rfl rfl (y_move rfl) rfl rfl (gj_yes rfl rfl rfl (y_lss rfl rfl) rfl rfl (gj_nil rfl))))) (gj_step (y_or rfl rfl rfl) rfl rfl rfl (gj_nil ?_))))))))))
          refine ej_th ?_
          refine cj_cond rfl (fun h128 => ?_) (fun h128 => ?_)
          · have h128b := h128
            try simp only [sxb] at h128
            have h8 : (((x.who == -1) || !(!(leastR st rv lad == 0))) || decide (x.limit < leastR st rv lad)) = true := h128b
            have hk : SellV st rv lad bs = ⟨-1, 0⟩ := by
              rw [hsl, if_pos]
              simp only [Bool.or_eq_true, beq_iff_eq, Bool.not_not, decide_eq_true_iff] at h8
              rcases h8 with (h | h) | h
              · exact .inl h
              · exact .inr (.inl h)
              · exact .inr (.inr h)
            refine cj_seq ?_
            refine cj_regionG ?_
            refine gj_step (y_loadN Try.isAgg34 Try.sizeOf34 rfl) rfl rfl rfl (gj_step (y_build (cs := [.int .i64 (-1), .int .i64 0]) st34 rfl (by kernel_rfl)) rfl rfl rfl (gj_step (y_bin rfl rfl (fun x y w => eq34 _ _ _ _ x y w)) rfl rfl rfl (gj_step (y_move rfl) rfl rfl rfl (?_))))
            refine gj_g 1 132 133 rfl rfl rfl rfl (fun hg132 => gj_yes rfl rfl rfl (y_call Try.call21 rfl (fun w hp => k_works w)) rfl rfl (gj_nil rfl)) ?_
            refine gj_step (y_and rfl rfl rfl) rfl rfl rfl (gj_step (y_assign rfl) rfl rfl rfl (?_))
            refine gj_nil ?_
            refine ej_th (cj_ret (ej_then_ret ?_))
            refine ej_ret1 rfl Try.results6 rfl (fun w' hp => ⟨?_, hp.below⟩)
            rw [hk]; rfl
          · have h128b := h128
            try simp only [sxb] at h128
            have h8 : (((x.who == -1) || !(!(leastR st rv lad == 0))) || decide (x.limit < leastR st rv lad)) = false := h128b
            have hk : SellV st rv lad bs = ⟨x.who, max (leastR st rv lad) x.price⟩ := by
              rw [hsl, if_neg]
              simp only [Bool.or_eq_false_iff, beq_eq_false_iff_ne, Bool.not_not, decide_eq_false_iff_not] at h8
              rintro (h | h | h)
              · exact h8.1.1 h
              · exact h8.1.2 h
              · exact h8.2 h
            refine cj_skip (ej_th (cj_seq ?_))
            refine cj_regionG ?_
            refine gj_step (y_loadN Try.isAgg34 Try.sizeOf34 rfl) rfl rfl rfl (gj_step (y_fa0 fa41_0 rfl) rfl rfl rfl (gj_step (y_load1 Try.isAgg3 rfl rfl) rfl rfl rfl (gj_step (y_fa fa41_4 rfl) rfl rfl rfl (gj_step (y_load1 Try.isAgg3 rfl rfl) rfl rfl rfl (gj_step (y_move rfl) rfl rfl rfl (gj_step (y_max rfl rfl) rfl rfl rfl (gj_step (y_build st34 rfl rfl) rfl rfl rfl (gj_step (y_bin rfl rfl (fun x y w => eq34 _ _ _ _ x y w)) rfl rfl rfl (gj_step (y_move rfl) rfl rfl rfl (?_))))))))))
            refine gj_g 1 144 145 rfl rfl rfl rfl (fun hg144 => gj_yes rfl rfl rfl (y_call Try.call21 rfl (fun w hp => k_works w)) rfl rfl (gj_nil rfl)) ?_
            refine gj_step (y_and rfl rfl rfl) rfl rfl rfl (gj_step (y_assign rfl) rfl rfl rfl (?_))
            refine gj_nil ?_
            refine ej_th (cj_ret ?_)
            refine ej_ret1 rfl Try.results6 rfl (fun w' hp => ⟨?_, hp.below⟩)
            rw [hk, Int.max_comm]; simp
  · refine oj_alloc Try.zeroValue34 rfl rfl (fun b13 => ?_)
    refine oj_nil ?_
    refine ej_pl (lt_y (y_move rfl) rfl (lt_y (y_move rfl) rfl (lt_y (y_loadN Try.isAgg24 Try.sizeOf24 rfl) rfl (lt_nil)))) ?_
    refine pl_w1 3 (by kernel_rfl) rfl rfl (pl_fire rfl rfl rfl (by kernel_rfl) ?_)
    refine oj_callS (fun A c => .slice A (mixG bits bs 0 []).length c) 3 encBi (mixG bits bs 0 []) Try.call29 rfl (fun w hp => k_mixed bs Ab cb bits Ai ci w hp.rd hb24 hp.rd hbi8) rfl (fun A42 c42 fp42 hfp42 => ?_)
    refine oj_nil ?_
    refine ej_pl (lt_w (by kernel_rfl) (lt_w (by kernel_rfl) (lt_y (y_loadN Try.isAgg24 Try.sizeOf24 rfl) rfl (lt_nil)))) ?_
    refine pl_y 4 rfl (y_call Try.call22 rfl (fun w hp => k_Sell st rv lad Al cl (mixG bits bs 0 []) A42 c42 w hp.rd hp.rd)) rfl rfl rfl rfl (by kernel_rfl) ?_
    refine pl_y 5 rfl (y_move rfl) rfl rfl rfl rfl (by kernel_rfl) ?_
    refine pl_y 6 rfl (y_extract rfl rfl) rfl rfl rfl rfl (by kernel_rfl) ?_
    refine pl_y 7 rfl (y_extract rfl rfl) rfl rfl rfl rfl (by kernel_rfl) ?_
    refine pl_w1 9 (by kernel_rfl) rfl rfl (pl_fire rfl rfl rfl (by kernel_rfl) ?_)
    refine oj_store rfl rfl rfl rfl Try.sizeOf34 rfl ?_
    refine oj_nil ?_
    refine ej_pl (lt_y (y_extract rfl rfl) rfl (lt_w (by kernel_rfl) (lt_w (by kernel_rfl) (lt_w (by kernel_rfl) (lt_w (by kernel_rfl) (lt_w (by kernel_rfl) (lt_w (by kernel_rfl) (lt_nil)))))))) ?_
    refine pl_y 10 rfl (y_assign rfl) rfl rfl rfl rfl (by kernel_rfl) ?_
    refine pl_end (by kernel_rfl) ?_
    refine ej_th (cj_seq (cj_seq ?_))
    refine cj_regionG (gj_step (y_move rfl) rfl rfl rfl (gj_step (y_move rfl) rfl rfl rfl (gj_step (y_neq rfl rfl) rfl rfl rfl (gj_step (y_move rfl) rfl rfl rfl (gj_g 3 49 52 rfl rfl rfl rfl (fun hg49 => gj_yes rfl rfl rfl (y_move rfl) rfl rfl (gj_yes rfl rfl rfl (y_move rfl) rfl rfl (gj_yes rfl rfl rfl (y_neq rfl rfl) rfl rfl (gj_nil rfl)))) (gj_step (y_or rfl rfl rfl) rfl rfl rfl (gj_step (y_move rfl) rfl rfl rfl (gj_g 3 54 57 rfl rfl rfl rfl (fun hg54 => gj_yes rfl rfl rfl (y_move rfl) rfl rfl (gj_yes rfl rfl rfl (y_move rfl) rfl rfl (gj_yes rfl rfl rfl (y_neq rfl rfl) rfl rfl (gj_nil rfl)))) (gj_step (y_or rfl rfl rfl) rfl rfl rfl (gj_step (y_move rfl) rfl rfl rfl (gj_g 3 59 62 rfl rfl rfl rfl (fun hg59 => gj_yes rfl rfl rfl (y_loadN Try.isAgg34 Try.sizeOf34 rfl) rfl rfl (gj_yes rfl rfl rfl (y_loadN Try.isAgg34 Try.sizeOf34 rfl) rfl rfl (gj_yes rfl rfl rfl (y_bin rfl rfl (fun x y w => ne34 _ _ _ _ x y w)) rfl rfl (gj_nil rfl)))) (gj_step (y_or rfl rfl rfl) rfl rfl rfl (gj_step (y_move rfl) rfl rfl rfl (gj_g 5 64 69 rfl rfl rfl rfl (fun hg64 => gj_yes rfl rfl rfl (y_move rfl) rfl rfl (gj_yes rfl rfl rfl (y_lenA Try.underlying37 rfl) rfl rfl (gj_yes rfl rfl rfl (y_move rfl) rfl rfl (gj_yes rfl rfl rfl (y_lenA Try.underlying37 rfl) rfl rfl (gj_yes rfl rfl rfl (y_neq rfl rfl) rfl rfl (gj_nil rfl)))))) (gj_step (y_or rfl rfl rfl) rfl rfl rfl (gj_nil ?_))))))))))))))))
    refine ej_th ?_
    refine cj_cond rfl (fun h70 => ?_) (fun h70 => ?_)
    · rw [hse, hsv, hrl] at h70
      exact absurd h70 (by simp)
    · have h70b := h70
      try simp only [sxb] at h70
      refine cj_skip (ej_th (cj_seq (cj_seq ?_)))
      refine cj_regionG (gj_step (y_move rfl) rfl rfl rfl (gj_step (y_neq rfl rfl) rfl rfl rfl (gj_step (y_move rfl) rfl rfl rfl (gj_g 3 73 76 rfl rfl rfl rfl (fun hg73 => gj_yes rfl rfl rfl (y_move rfl) rfl rfl (gj_yes rfl rfl rfl (y_lenA Try.underlying37 rfl) rfl rfl (gj_yes rfl rfl rfl (y_eql rfl rfl) rfl rfl (gj_nil rfl)))) (gj_step (y_or rfl rfl rfl) rfl rfl rfl (gj_nil ?_))))))
      refine ej_th ?_
      refine cj_cond rfl (fun h77 => ?_) (fun h77 => ?_)
      · have h77b := h77
        try simp only [sxb] at h77
        have h9 : ((SellE st rv lad bs != 0) || (((RoomL st rv lad bs).length : Int) == 0)) = true := h77b
        have hfin : SellE st rv lad bs = 0 ∧ SellV st rv lad bs = ⟨-1, 0⟩ ∨ SellE st rv lad bs ≠ 0 ∧ SellV st rv lad bs = ⟨0, 0⟩ := by
          by_cases h0 : SellE st rv lad bs = 0
          · left
            rw [h0] at h9
            exact ⟨h0, room_nil h0 (by simpa using h9)⟩
          · exact .inr ⟨h0, sellE_ne h0⟩
        refine cj_seq ?_
        refine cj_regionG ?_
        refine gj_step (y_move rfl) rfl rfl rfl (gj_step (y_eql rfl rfl) rfl rfl rfl (gj_step (y_move rfl) rfl rfl rfl (?_)))
        refine gj_g 3 80 83 rfl rfl rfl rfl (fun hg80 => gj_yes rfl rfl rfl (y_loadN Try.isAgg34 Try.sizeOf34 rfl) rfl rfl (gj_yes rfl rfl rfl (y_build (cs := [.int .i64 (-1), .int .i64 0]) st34 rfl (by kernel_rfl)) rfl rfl (gj_yes rfl rfl rfl (y_bin rfl rfl (fun x y w => eq34 _ _ _ _ x y w)) rfl rfl (gj_nil rfl)))) ?_
        refine gj_step (y_and rfl rfl rfl) rfl rfl rfl (gj_step (y_move rfl) rfl rfl rfl (?_))
        refine gj_g 7 85 92 rfl rfl rfl rfl (fun hg85 => gj_yes rfl rfl rfl (y_move rfl) rfl rfl (gj_yes rfl rfl rfl (y_neq rfl rfl) rfl rfl (gj_yes rfl rfl rfl (y_move rfl) rfl rfl (gj_g 3 88 91 rfl rfl rfl rfl (fun hg88 => gj_yes rfl rfl rfl (y_loadN Try.isAgg34 Try.sizeOf34 rfl) rfl rfl (gj_yes rfl rfl rfl (y_build st34 rfl rfl) rfl rfl (gj_yes rfl rfl rfl (y_bin rfl rfl (fun x y w => eq34 _ _ _ _ x y w)) rfl rfl (gj_nil rfl)))) (gj_yes rfl rfl rfl (y_and rfl rfl rfl) rfl rfl (gj_nil rfl)))))) ?_
        refine gj_step (y_or rfl rfl rfl) rfl rfl rfl (gj_step (y_move rfl) rfl rfl rfl (?_))
        refine gj_g 1 94 95 rfl rfl rfl rfl (fun hg94 => gj_yes rfl rfl rfl (y_call Try.call21 rfl (fun w hp => k_works w)) rfl rfl (gj_nil rfl)) ?_
        refine gj_step (y_and rfl rfl rfl) rfl rfl rfl (gj_step (y_assign rfl) rfl rfl rfl (?_))
        refine gj_nil ?_
        refine ej_th (cj_ret (ej_then_ret ?_))
        refine ej_ret1 rfl Try.results6 rfl (fun w' hp => ⟨?_, hp.below⟩)
        rcases hfin with ⟨h1, h2⟩ | ⟨h1, h2⟩
        · rw [h1, h2]; rfl
        · rw [h2, show (SellE st rv lad bs == 0) = false by simpa using h1, show (SellE st rv lad bs != 0) = true by simpa using h1]; rfl
      · have h77b := h77
        try simp only [sxb] at h77
        have h9 : ((SellE st rv lad bs != 0) || (((RoomL st rv lad bs).length : Int) == 0)) = false := h77b
        rw [Bool.or_eq_false_iff] at h9
        have h0 : SellE st rv lad bs = 0 := by simpa using h9.1
        have hyes := (sellE_0 h0).1
        obtain ⟨n, hn⟩ : ∃ n, n + 1 = (RoomL st rv lad bs).length := ⟨(RoomL st rv lad bs).length - 1, by have := h9.2; simp at this; omega⟩
        have hl1 := room_last h0 hn
        have hl2 := room_last_perm hmp h0 hn
        have hlx : (RoomL st rv lad bs)[(((RoomL st rv lad bs).length : Int) - 1).toNat]? = some (roomE (rgL lad st) st bs) := by rw [show (((RoomL st rv lad bs).length : Int) - 1).toNat = n by omega]; exact hl1
        have hly : (RoomL st rv lad (mixG bits bs 0 []))[(((RoomL st rv lad (mixG bits bs 0 [])).length : Int) - 1).toNat]? = some (roomE (rgL lad st) st bs) := by rw [show (((RoomL st rv lad (mixG bits bs 0 [])).length : Int) - 1).toNat = n by omega]; exact hl2
        have hfl := floorR hyes
        have hsl := sell_lead h0
        obtain ⟨x, hxe⟩ : ∃ x, x = (roomE (rgL lad st) st bs) := ⟨_, rfl⟩
        rw [← hxe] at hlx hly hsl
        refine cj_get (fun w1 hp => (show Rd w1 5 encLe A21 (RoomL st rv lad bs) from hp.rd).len) (fun hrl9 => ?_)
        refine cj_skip (ej_th (cj_seq (cj_region ?_)))
        refine oj_step (y_move rfl) rfl rfl rfl ?_
        refine oj_step (y_move rfl) rfl rfl rfl ?_
        refine oj_step (y_lenA Try.underlying37 rfl) rfl rfl rfl ?_
        refine oj_step (y_sub rfl rfl (by omega)) rfl rfl rfl ?_
        refine oj_step (y_ixR (reads_sl) Try.underlying37 Try.sizeOf41 rfl rfl (⟨by omega, by omega⟩)) rfl rfl rfl ?_
        refine oj_step (y_ldW (reads_sl) Try.isAgg41 Try.sizeOf41 rfl (hlx) (fun _ => rfl)) rfl rfl rfl ?_
        refine oj_alloc Try.zeroValue41 rfl rfl (fun b15 => ?_)
        refine oj_store rfl rfl rfl rfl Try.sizeOf41 rfl ?_
        refine oj_nil ?_
        refine ej_th (cj_seq (cj_seq ?_))
        refine cj_draw (by kernel_rfl) (by kernel_rfl) (gj_step (y_loadN Try.isAgg41 Try.sizeOf41 rfl) rfl rfl rfl (gj_step (y_move rfl) rfl rfl rfl (gj_step (y_move rfl) rfl rfl rfl (gj_step (y_lenA Try.underlying37 rfl) rfl rfl rfl (gj_step (y_sub rfl rfl (by omega)) rfl rfl rfl (gj_step (y_ixR (reads_sl) Try.underlying37 Try.sizeOf41 rfl rfl (⟨by omega, by omega⟩)) rfl rfl rfl (gj_step (y_ldW (reads_sl) Try.isAgg41 Try.sizeOf41 rfl (hly) (fun _ => rfl)) rfl rfl rfl (gj_step (y_bin rfl rfl (fun x y w => ne41 _ _ _ _ _ _ _ _ _ _ x y w)) rfl rfl rfl (gj_nil ?_)))))))))
        refine ej_th ?_
        refine cj_cond rfl (fun h110 => ?_) (fun h110 => ?_)
        · exact absurd h110 (by simp)
        · have h110b := h110
          try simp only [sxb] at h110
          refine cj_skip (ej_th (cj_seq ?_))
          refine cj_regionG ?_
          refine gj_step (y_loadN Try.isAgg24 Try.sizeOf24 rfl) rfl rfl rfl (?_)
          refine gj_step (y_call Try.call30 rfl (fun w hp => k_floor st rv lad Al cl w hp.rd hyes)) rfl rfl rfl ?_
          refine gj_step (y_move rfl) rfl rfl rfl (gj_step (y_extract rfl rfl) rfl rfl rfl (gj_step (y_extract rfl rfl) rfl rfl rfl (gj_step (y_assign rfl) rfl rfl rfl (gj_step (y_assign rfl) rfl rfl rfl (?_)))))
          refine gj_nil ?_
          refine ej_th (cj_seq (cj_seq ?_))
          rw [hfl]
          refine cj_regionG (gj_step (y_fa0 fa41_0 rfl) rfl rfl rfl (gj_step (y_load1 Try.isAgg3 rfl rfl) rfl rfl rfl (gj_step (y_eql rfl rfl) rfl rfl rfl (gj_step (y_move rfl) rfl rfl rfl (gj_g 2 119 121 rfl rfl rfl rfl (fun hg119 => gj_yes rfl rfl rfl (y_move rfl) rfl rfl (gj_yes rfl rfl rfl (y_not rfl) rfl rfl (gj_nil rfl))) (gj_step (y_or rfl rfl rfl) rfl rfl rfl (gj_step (y_move rfl) rfl rfl rfl (gj_g 4 123 127 rfl rfl rfl rfl (fun hg123 => gj_yes rfl rfl rfl (y_fa fa41_1 rfl) rfl rfl (gj_yes rfl rfl rfl (y_load1 Try.isAgg3 rfl rfl) rfl rfl (gj_yes rfl rfl rfl (y_move rfl) rfl rfl (gj_yes rfl rfl rfl (y_lss rfl rfl) rfl rfl (gj_nil rfl))))) (gj_step (y_or rfl rfl rfl) rfl rfl rfl (gj_nil ?_))))))))))
          refine ej_th ?_
          refine cj_cond rfl (fun h128 => ?_) (fun h128 => ?_)
          · have h128b := h128
            try simp only [sxb] at h128
            have h8 : (((x.who == -1) || !(!(leastR st rv lad == 0))) || decide (x.limit < leastR st rv lad)) = true := h128b
            have hk : SellV st rv lad bs = ⟨-1, 0⟩ := by
              rw [hsl, if_pos]
              simp only [Bool.or_eq_true, beq_iff_eq, Bool.not_not, decide_eq_true_iff] at h8
              rcases h8 with (h | h) | h
              · exact .inl h
              · exact .inr (.inl h)
              · exact .inr (.inr h)
            refine cj_seq ?_
            refine cj_regionG ?_
            refine gj_step (y_loadN Try.isAgg34 Try.sizeOf34 rfl) rfl rfl rfl (gj_step (y_build (cs := [.int .i64 (-1), .int .i64 0]) st34 rfl (by kernel_rfl)) rfl rfl rfl (gj_step (y_bin rfl rfl (fun x y w => eq34 _ _ _ _ x y w)) rfl rfl rfl (gj_step (y_move rfl) rfl rfl rfl (?_))))
            refine gj_g 1 132 133 rfl rfl rfl rfl (fun hg132 => gj_yes rfl rfl rfl (y_call Try.call21 rfl (fun w hp => k_works w)) rfl rfl (gj_nil rfl)) ?_
            refine gj_step (y_and rfl rfl rfl) rfl rfl rfl (gj_step (y_assign rfl) rfl rfl rfl (?_))
            refine gj_nil ?_
            refine ej_th (cj_ret (ej_then_ret ?_))
            refine ej_ret1 rfl Try.results6 rfl (fun w' hp => ⟨?_, hp.below⟩)
            rw [hk]; rfl
          · have h128b := h128
            try simp only [sxb] at h128
            have h8 : (((x.who == -1) || !(!(leastR st rv lad == 0))) || decide (x.limit < leastR st rv lad)) = false := h128b
            have hk : SellV st rv lad bs = ⟨x.who, max (leastR st rv lad) x.price⟩ := by
              rw [hsl, if_neg]
              simp only [Bool.or_eq_false_iff, beq_eq_false_iff_ne, Bool.not_not, decide_eq_false_iff_not] at h8
              rintro (h | h | h)
              · exact h8.1.1 h
              · exact h8.1.2 h
              · exact h8.2 h
            refine cj_skip (ej_th (cj_seq ?_))
            refine cj_regionG ?_
            refine gj_step (y_loadN Try.isAgg34 Try.sizeOf34 rfl) rfl rfl rfl (gj_step (y_fa0 fa41_0 rfl) rfl rfl rfl (gj_step (y_load1 Try.isAgg3 rfl rfl) rfl rfl rfl (gj_step (y_fa fa41_4 rfl) rfl rfl rfl (gj_step (y_load1 Try.isAgg3 rfl rfl) rfl rfl rfl (gj_step (y_move rfl) rfl rfl rfl (gj_step (y_max rfl rfl) rfl rfl rfl (gj_step (y_build st34 rfl rfl) rfl rfl rfl (gj_step (y_bin rfl rfl (fun x y w => eq34 _ _ _ _ x y w)) rfl rfl rfl (gj_step (y_move rfl) rfl rfl rfl (?_))))))))))
            refine gj_g 1 144 145 rfl rfl rfl rfl (fun hg144 => gj_yes rfl rfl rfl (y_call Try.call21 rfl (fun w hp => k_works w)) rfl rfl (gj_nil rfl)) ?_
            refine gj_step (y_and rfl rfl rfl) rfl rfl rfl (gj_step (y_assign rfl) rfl rfl rfl (?_))
            refine gj_nil ?_
            refine ej_th (cj_ret ?_)
            refine ej_ret1 rfl Try.results6 rfl (fun w' hp => ⟨?_, hp.below⟩)
            rw [hk, Int.max_comm]; simp

end Go.Proofs.Ytehmifpofpifkaa
