/- Texts of ours, joined: 12 of them. Conditions: none. -/
import Derived.Test.YtafmgkiddhappaaDoorZSa
import Derived.Test.YtafmgkiddhappaaDoorZSb
namespace Go.Proofs.YtafmgkiddhappaaDoor
open Go.Sx Go.RowKit

structure Sale where
  kind : Int
  day : Int
  weight : Int
  metal : Int
  price : Int
  deriving Inhabited, DecidableEq
abbrev encSale (s : Sale) : List Value := [.int .i64 s.kind, .int .i64 s.day, .int .i64 s.weight, .int .i64 s.metal, .int .i64 s.price]

theorem not_t {b : Bool} (h : (!b) = true) : b = false := by cases b <;> simp_all
theorem not_f {b : Bool} (h : (!b) = false) : b = true := by cases b <;> simp_all
/-- the first index of a number, or -1 -/
def seek : List Int → Int → Int → Int
  | [], _, _ => -1
  | x :: l, n, i => if x = n then i else seek l n (i + 1)
theorem seek_drop (l : List Int) (n : Int) (k : Nat) (x : Int) (h : l[k]? = some x) : seek (l.drop k) n k = if x = n then (k : Int) else seek (l.drop (k + 1)) n ((k + 1 : Nat) : Int) := by
  obtain ⟨h1, h2⟩ := List.getElem?_eq_some_iff.1 h
  rw [List.drop_eq_getElem_cons h1, h2, seek]; rfl
def btw (lo n hi : Int) : Bool := decide (lo ≤ n) && decide (n ≤ hi)
def bad64 (n : Int) : Bool := !(btw 0 n 64)
def firstB : List Int → Int → Int
  | [], _ => -1
  | x :: l, i => if bad64 x then i else firstB l (i + 1)
theorem firstB_drop (l : List Int) (k : Nat) (x : Int) (h : l[k]? = some x) : firstB (l.drop k) k = if bad64 x then (k : Int) else firstB (l.drop (k + 1)) ((k + 1 : Nat) : Int) := by
  obtain ⟨h1, h2⟩ := List.getElem?_eq_some_iff.1 h
  rw [List.drop_eq_getElem_cons h1, h2, firstB]; rfl
theorem firstB_any : ∀ (l : List Int) (i : Int), 0 ≤ i → decide (0 ≤ firstB l i) = l.any bad64
  | [], i, _ => by simp [firstB]
  | x :: l, i, h => by
    rw [firstB, List.any_cons]
    by_cases hx : bad64 x = true
    · simp [hx, h]
    · simp only [hx, if_false, Bool.false_or, Bool.false_eq_true]
      exact firstB_any l (i + 1) (by omega)
theorem all_drop {α : Type} (p : α → Bool) (l : List α) (k : Nat) (x : α) (h : l[k]? = some x) : (l.drop k).all p = (p x && (l.drop (k + 1)).all p) := by
  obtain ⟨h1, h2⟩ := List.getElem?_eq_some_iff.1 h
  rw [List.drop_eq_getElem_cons h1, h2, List.all_cons]
def okSale (nf day : Int) (s : Sale) : Bool :=
  btw 0 s.kind (nf - 1) && btw 0 s.day day && btw 0 s.weight 1000 && btw 0 s.metal 100000 && btw 0 s.price 1073741824
def badM (ns : Int) (fade : List Int) (metal day few : Int) : Bool :=
  (decide (0 ≤ firstB fade 0)) || !(btw 1 fade.length 8) || !(btw 0 metal 100000) || !(btw 0 day 36500) || !(btw 1 few 16) || decide (64 < ns)
def badMarket (sales : List Sale) (fade : List Int) (metal day few : Int) : Bool := badM sales.length fade metal day few || !(sales.all (okSale fade.length day))
def errM (b : Bool) : Int := if b then 20 else 0
def okM (ns : Int) (nf metal day few : Int) : Bool := btw 1 nf 8 && btw 0 metal 100000 && btw 0 day 36500 && btw 1 few 16 && decide (ns ≤ 64)
/-- the two checks are one -/
theorem ref_market (sales : List Sale) (fade : List Int) (metal day few : Int) :
    (okM sales.length fade.length metal day few && fade.all (fun n => btw 0 n 64) && sales.all (okSale fade.length day)) = !(badMarket sales fade metal day few) := by
  unfold badMarket badM okM
  rw [firstB_any _ _ (Int.le_refl 0)]
  have h1 : fade.any bad64 = !(fade.all (fun n => btw 0 n 64)) := by simp [List.any_eq_not_all_not, bad64]
  have h2 : decide (64 < (sales.length : Int)) = !(decide ((sales.length : Int) ≤ 64)) := by
    by_cases h : (sales.length : Int) ≤ 64
    · simp [h]
    · simp [h]; omega
  rw [h1, h2]
  simp only [Bool.not_or, Bool.not_not]
  cases fade.all (fun n => btw 0 n 64) <;> cases sales.all (okSale fade.length day) <;> simp

def faded (fade : List Int) (s : Sale) (n : Int) : Int := (n * (fade.getD s.kind.toNat 0)).tdiv 64
end Go.Proofs.YtafmgkiddhappaaDoor
namespace Go.Proofs.YtafmgkiddhappaaDoor
open Go.Sx Go.RowKit

def fadeN : Nat → Int → Int → Int
  | 0, _, n => n
  | k + 1, f, n => fadeN k f (n * f / 64)
theorem fade_mul (n f : Int) (hn : 0 ≤ n ∧ n ≤ 1073741824) (hf : 0 ≤ f ∧ f ≤ 64) : 0 ≤ n * f ∧ n * f ≤ 68719476736 ∧ 0 ≤ n * f / 64 ∧ n * f / 64 ≤ 1073741824 := by
  have h1 : 0 ≤ n * f := Int.mul_nonneg hn.1 hf.1
  have h2 : n * f ≤ 1073741824 * 64 := Int.mul_le_mul hn.2 hf.2 hf.1 (by omega)
  omega
theorem fadeN_bd : ∀ (k : Nat) (n f : Int), (0 ≤ n ∧ n ≤ 1073741824) → (0 ≤ f ∧ f ≤ 64) → 0 ≤ fadeN k f n ∧ fadeN k f n ≤ 1073741824
  | 0, _, _, hn, _ => hn
  | k + 1, n, f, hn, hf => fadeN_bd k _ f ⟨(fade_mul n f hn hf).2.2.1, (fade_mul n f hn hf).2.2.2⟩ hf
def years (day : Int) (s : Sale) : Nat := ((day - s.day) / 365).toNat
def craftOf (fade : List Int) (day : Int) (s : Sale) : Int := fadeN (years day s) (fade.getD s.kind.toNat 0) (max 0 (s.price - s.weight * s.metal))
theorem okSale_parts {nf day : Int} {s : Sale} (h : okSale nf day s = true) : (0 ≤ s.kind ∧ s.kind ≤ nf - 1) ∧ (0 ≤ s.day ∧ s.day ≤ day) ∧ (0 ≤ s.weight ∧ s.weight ≤ 1000) ∧ (0 ≤ s.metal ∧ s.metal ≤ 100000) ∧ (0 ≤ s.price ∧ s.price ≤ 1073741824) := by
  simp only [okSale, btw, Bool.and_eq_true, decide_eq_true_eq] at h
  omega
theorem craft_first {nf day : Int} {s : Sale} (h : okSale nf day s = true) : (0 ≤ s.weight * s.metal ∧ s.weight * s.metal ≤ 100000000) ∧ (0 ≤ max 0 (s.price - s.weight * s.metal) ∧ max 0 (s.price - s.weight * s.metal) ≤ 1073741824) := by
  obtain ⟨_, _, h1, h2, h3⟩ := okSale_parts h
  have h4 : 0 ≤ s.weight * s.metal := Int.mul_nonneg h1.1 h2.1
  have h5 : s.weight * s.metal ≤ 1000 * 100000 := Int.mul_le_mul h1.2 h2.2 h2.1 (by omega)
  omega
theorem fade_in {fade : List Int} (h : fade.all (fun n => btw 0 n 64) = true) (i : Nat) : 0 ≤ fade.getD i 0 ∧ fade.getD i 0 ≤ 64 := by
  by_cases hi : i < fade.length
  · have := List.all_eq_true.1 h (fade[i]) (List.getElem_mem hi)
    rw [List.getD_eq_getElem?_getD, List.getElem?_eq_getElem hi]
    simp only [btw, Bool.and_eq_true, decide_eq_true_eq] at this
    simpa using this
  · rw [List.getD_eq_getElem?_getD, List.getElem?_eq_none (by omega)]; simp
theorem craftOf_bd {fade : List Int} {nf day : Int} {s : Sale} (hok : okSale nf day s = true) (hfa : fade.all (fun n => btw 0 n 64) = true) : 0 ≤ craftOf fade day s ∧ craftOf fade day s ≤ 1073741824 :=
  fadeN_bd _ _ _ (craft_first hok).2 (fade_in hfa _)
theorem badMarket_parts {sales : List Sale} {fade : List Int} {metal day few : Int} (h : badMarket sales fade metal day few = false) :
    fade.all (fun n => btw 0 n 64) = true ∧ (1 ≤ fade.length ∧ fade.length ≤ 8) ∧ (0 ≤ metal ∧ metal ≤ 100000) ∧ (0 ≤ day ∧ day ≤ 36500) ∧ (1 ≤ few ∧ few ≤ 16) ∧ sales.length ≤ 64 ∧ ∀ s ∈ sales, okSale fade.length day s = true := by
  have h0 := ref_market sales fade metal day few
  rw [h] at h0
  simp only [okM, btw, Bool.not_false, Bool.and_eq_true, decide_eq_true_eq] at h0
  obtain ⟨⟨⟨⟨⟨⟨h1, h2⟩, h3⟩, h4⟩, h5⟩, h6⟩, h7⟩ := h0
  exact ⟨h6, by omega, h2, h3, h4, by omega, List.all_eq_true.1 h7⟩
theorem take_eq_succ {xs ys : List Int} {k : Nat} {x y : Int} (hx : xs[k]? = some x) (hy : ys[k]? = some y) : (xs.take (k + 1) = ys.take (k + 1)) ↔ (xs.take k = ys.take k ∧ x = y) := by
  rw [List.take_add_one, List.take_add_one, hx, hy]
  constructor
  · intro h
    have := List.append_inj' h (by simp)
    simpa using this
  · rintro ⟨h1, rfl⟩
    rw [h1]
/-- rings -/
def ringI (n m : Int) : Int := if m ≤ 0 then 0 else ((n.tmod m) + m).tmod m
end Go.Proofs.YtafmgkiddhappaaDoor
namespace Go.Proofs.YtafmgkiddhappaaDoor
open Go.Sx Go.RowKit

/-- how many at the beginning are at most n -/
def upTo (l : List Int) (n : Int) : Nat := (l.takeWhile (fun x => decide (x ≤ n))).length
def ins (l : List Int) (n : Int) : List Int := l.take (upTo l n) ++ [n] ++ l.drop (upTo l n)
def craftsOf (sales : List Sale) (fade : List Int) (day kind : Int) : List Int :=
  sales.foldl (fun out s => if s.kind = kind then ins out (craftOf fade day s) else out) []
theorem upTo_le (l : List Int) (n : Int) : upTo l n ≤ l.length := (List.takeWhile_sublist _).length_le
theorem upTo_lt : ∀ (l : List Int) (n : Int) (k : Nat) (x : Int), k < upTo l n → l[k]? = some x → x ≤ n
  | [], _, k, x, h, hx => by simp at hx
  | y :: l, n, k, x, h, hx => by
    unfold upTo at h
    by_cases hy : y ≤ n
    · simp only [List.takeWhile_cons, hy, decide_true, if_true, List.length_cons] at h
      cases k with
      | zero => simp at hx; omega
      | succ k => exact upTo_lt l n k x (by unfold upTo; omega) (by simpa using hx)
    · simp [hy] at h
theorem upTo_at : ∀ (l : List Int) (n : Int) (x : Int), l[upTo l n]? = some x → ¬ x ≤ n
  | [], _, x, hx => by simp at hx
  | y :: l, n, x, hx => by
    by_cases hy : y ≤ n
    · have : upTo (y :: l) n = upTo l n + 1 := by simp [upTo, hy]
      rw [this] at hx
      exact upTo_at l n x (by simpa using hx)
    · have : upTo (y :: l) n = 0 := by simp [upTo, hy]
      rw [this] at hx
      simp at hx; omega
theorem ins_len (l : List Int) (n : Int) : (ins l n).length = l.length + 1 := by
  have := upTo_le l n
  simp [ins]; omega
theorem fold_len (fade : List Int) (day kind : Int) : ∀ (sales : List Sale) (out : List Int), (sales.foldl (fun out s => if s.kind = kind then ins out (craftOf fade day s) else out) out).length ≤ out.length + sales.length
  | [], out => by simp
  | s :: l, out => by
    rw [List.foldl_cons]
    refine Nat.le_trans (fold_len fade day kind l _) ?_
    split
    · rw [ins_len, List.length_cons]; omega
    · rw [List.length_cons]; omega
theorem fold_drop {β : Type} (f : β → Sale → β) (sales : List Sale) (out : β) (k : Nat) (s : Sale) (h : sales[k]? = some s) : (sales.drop k).foldl f out = (sales.drop (k + 1)).foldl f (f out s) := by
  obtain ⟨h1, h2⟩ := List.getElem?_eq_some_iff.1 h
  rw [List.drop_eq_getElem_cons h1, h2, List.foldl_cons]
end Go.Proofs.YtafmgkiddhappaaDoor
namespace Go.Proofs.YtafmgkiddhappaaDoor
open Go.Sx Go.RowKit

theorem ins_perm (l : List Int) (n : Int) : (ins l n).Perm (l ++ [n]) := by
  unfold ins
  rw [List.append_assoc]
  refine (List.perm_append_comm_assoc ..).trans ?_
  rw [List.take_append_drop]
  exact List.perm_append_comm
theorem upTo_drop : ∀ (l : List Int) (n : Int), l.Pairwise (· ≤ ·) → ∀ x ∈ l.drop (upTo l n), n ≤ x
  | [], _, _, x, hx => by simp at hx
  | y :: l, n, h, x, hx => by
    by_cases hy : y ≤ n
    · have : upTo (y :: l) n = upTo l n + 1 := by simp [upTo, hy]
      rw [this, List.drop_succ_cons] at hx
      exact upTo_drop l n (List.pairwise_cons.1 h).2 x hx
    · have : upTo (y :: l) n = 0 := by simp [upTo, hy]
      rw [this, List.drop_zero] at hx
      rcases List.mem_cons.1 hx with rfl | hx
      · omega
      · have := (List.pairwise_cons.1 h).1 x hx; omega
theorem upTo_take : ∀ (l : List Int) (n : Int), ∀ x ∈ l.take (upTo l n), x ≤ n
  | [], _, x, hx => by simp at hx
  | y :: l, n, x, hx => by
    by_cases hy : y ≤ n
    · have : upTo (y :: l) n = upTo l n + 1 := by simp [upTo, hy]
      rw [this, List.take_succ_cons] at hx
      rcases List.mem_cons.1 hx with rfl | hx
      · exact hy
      · exact upTo_take l n x hx
    · have : upTo (y :: l) n = 0 := by simp [upTo, hy]
      rw [this, List.take_zero] at hx; cases hx
theorem ins_sorted (l : List Int) (n : Int) (h : l.Pairwise (· ≤ ·)) : (ins l n).Pairwise (· ≤ ·) := by
  unfold ins
  rw [List.append_assoc, List.pairwise_append]
  refine ⟨h.sublist (List.take_sublist ..), ?_, fun x hx y hy => ?_⟩
  · rw [List.singleton_append, List.pairwise_cons]
    exact ⟨upTo_drop l n h, h.sublist (List.drop_sublist ..)⟩
  · have h1 := upTo_take l n x hx
    rcases List.mem_append.1 hy with hy | hy
    · rw [List.mem_singleton.1 hy]; exact h1
    · have := upTo_drop l n h y hy; omega
def ofKind (sales : List Sale) (kind : Int) : List Sale := sales.filter (fun s => decide (s.kind = kind))
def rawCrafts (sales : List Sale) (fade : List Int) (day kind : Int) : List Int := (ofKind sales kind).map (craftOf fade day)
theorem fold_perm (fade : List Int) (day kind : Int) : ∀ (sales : List Sale) (out : List Int), out.Pairwise (· ≤ ·) →
    (sales.foldl (fun out s => if s.kind = kind then ins out (craftOf fade day s) else out) out).Pairwise (· ≤ ·) ∧ (sales.foldl (fun out s => if s.kind = kind then ins out (craftOf fade day s) else out) out).Perm (out ++ rawCrafts sales fade day kind)
  | [], out, h => by simp [rawCrafts, ofKind, h]
  | s :: l, out, h => by
    rw [List.foldl_cons]
    by_cases hk : s.kind = kind
    · rw [if_pos hk]
      obtain ⟨h1, h2⟩ := fold_perm fade day kind l _ (ins_sorted out (craftOf fade day s) h)
      refine ⟨h1, h2.trans ?_⟩
      have : rawCrafts (s :: l) fade day kind = craftOf fade day s :: rawCrafts l fade day kind := by simp [rawCrafts, ofKind, hk]
      rw [this]
      refine ((ins_perm out _).append_right _).trans ?_
      rw [List.append_assoc]; rfl
    · rw [if_neg hk]
      obtain ⟨h1, h2⟩ := fold_perm fade day kind l out h
      have : rawCrafts (s :: l) fade day kind = rawCrafts l fade day kind := by simp [rawCrafts, ofKind, hk]
      rw [this]; exact ⟨h1, h2⟩
theorem craftsOf_eq (sales : List Sale) (fade : List Int) (day kind : Int) : craftsOf sales fade day kind = sortI (rawCrafts sales fade day kind) := by
  obtain ⟨h1, h2⟩ := fold_perm fade day kind sales [] List.Pairwise.nil
  exact sorted_unique h1 (sortI_pairwise _) (h2.trans (sortI_perm _).symm)
theorem craftsOf_sorted (sales : List Sale) (fade : List Int) (day kind : Int) : (craftsOf sales fade day kind).Pairwise (· ≤ ·) := by rw [craftsOf_eq]; exact sortI_pairwise _
theorem craftsOf_len (sales : List Sale) (fade : List Int) (day kind : Int) : (craftsOf sales fade day kind).length ≤ sales.length := by
  rw [craftsOf_eq, sortI_len]; simp [rawCrafts, ofKind]; exact List.length_filter_le ..
theorem craftsOf_bd {sales : List Sale} {fade : List Int} {day : Int} {nf : Int} (kind : Int) (hs : ∀ s ∈ sales, okSale nf day s = true) (hfa : fade.all (fun n => btw 0 n 64) = true) : ∀ x ∈ craftsOf sales fade day kind, 0 ≤ x ∧ x ≤ 1073741824 := by
  intro x hx
  rw [craftsOf_eq] at hx
  have := (sortI_perm _).mem_iff.1 hx
  obtain ⟨s, h1, rfl⟩ := List.mem_map.1 this
  exact craftOf_bd (hs s (List.mem_filter.1 h1).1) hfa
def cnt (sales : List Sale) (kind : Int) (i : Nat) : Nat := (ofKind (sales.take i) kind).length
theorem cnt_yes (sales : List Sale) (kind : Int) (i : Nat) (s : Sale) (h : sales[i]? = some s) (hk : s.kind = kind) : cnt sales kind (i + 1) = cnt sales kind i + 1 ∧ (ofKind sales kind)[cnt sales kind i]? = some s := by
  obtain ⟨hi, he⟩ := List.getElem?_eq_some_iff.1 h
  have h1 : sales.take (i + 1) = sales.take i ++ [s] := by rw [List.take_add_one, h]; rfl
  have h2 : ofKind (sales.take (i + 1)) kind = ofKind (sales.take i) kind ++ [s] := by rw [h1]; simp [ofKind, hk]
  refine ⟨by simp [cnt, h2], ?_⟩
  have h3 : ofKind sales kind = ofKind (sales.take (i + 1)) kind ++ ofKind (sales.drop (i + 1)) kind := by rw [ofKind, ofKind, ofKind, ← List.filter_append, List.take_append_drop]
  rw [h3, h2]
  simp [cnt]
theorem cnt_no (sales : List Sale) (kind : Int) (i : Nat) (s : Sale) (h : sales[i]? = some s) (hk : ¬ s.kind = kind) : cnt sales kind (i + 1) = cnt sales kind i := by
  have h1 : sales.take (i + 1) = sales.take i ++ [s] := by rw [List.take_add_one, h]; rfl
  simp [cnt, h1, ofKind, hk]
theorem cnt_end (sales : List Sale) (kind : Int) (i : Nat) (h : sales.length ≤ i) : cnt sales kind i = (ofKind sales kind).length := by rw [cnt, List.take_of_length_le h]
end Go.Proofs.YtafmgkiddhappaaDoor
namespace Go.Proofs.YtafmgkiddhappaaDoor
open Go.Sx Go.RowKit

theorem errM_ne (b : Bool) : (errM b ≠ 0) = (b = true) := by cases b <;> simp [errM]
theorem errM_eq (b : Bool) : (errM b = 0) = (b = false) := by cases b <;> simp [errM]
def CraftsL (sales : List Sale) (fade : List Int) (metal day few kind : Int) : List Int :=
  if badMarket sales fade metal day few then [] else if btw 0 kind (fade.length - 1) then craftsOf sales fade day kind else []
def CraftsE (sales : List Sale) (fade : List Int) (metal day few kind : Int) : Int :=
  if badMarket sales fade metal day few then 20 else if btw 0 kind (fade.length - 1) then 0 else 7
theorem CraftsL_len {sales : List Sale} {fade : List Int} {metal day few kind : Int} : (CraftsL sales fade metal day few kind).length ≤ sales.length := by
  unfold CraftsL
  split
  · simp
  · split
    · exact craftsOf_len ..
    · simp
def spanOk (lo hi most : Int) : Bool := decide (0 ≤ lo) && decide (lo ≤ hi) && decide (hi ≤ most)
def badWare (nf kind wmin wmax : Int) : Bool := !(btw 0 kind (nf - 1)) || !(spanOk wmin wmax 1000)
/-- a value: its least, its greatest, the error -/
structure Val where
  lo : Int
  hi : Int
  err : Int
def midOf (l : List Int) (metal wmin wmax : Int) : Val :=
  ⟨l.getD (((l.length : Int) - 1) / 4).toNat 0 + metal * wmin, l.getD ((l.length : Int) - 1 - ((l.length : Int) - 1) / 4).toNat 0 + metal * wmax, 0⟩
def valueOf (sales : List Sale) (fade : List Int) (metal day few kind wmin wmax : Int) : Val :=
  if badMarket sales fade metal day few then ⟨0, 0, 20⟩ else if badWare fade.length kind wmin wmax then ⟨0, 0, 21⟩
  else if ((craftsOf sales fade day kind).length : Int) < few then ⟨0, 0, 4⟩ else midOf (craftsOf sales fade day kind) metal wmin wmax
theorem badWare_no {nf kind wmin wmax : Int} (h : badWare nf kind wmin wmax = false) : (0 ≤ kind ∧ kind ≤ nf - 1) ∧ (0 ≤ wmin ∧ wmin ≤ wmax ∧ wmax ≤ 1000) := by
  simp only [badWare, btw, spanOk, Bool.or_eq_false_iff, Bool.not_eq_false', Bool.and_eq_true, decide_eq_true_eq] at h
  omega
theorem mul_bd {a b x y : Int} (ha : 0 ≤ a ∧ a ≤ x) (hb : 0 ≤ b ∧ b ≤ y) : 0 ≤ a * b ∧ a * b ≤ x * y :=
  ⟨Int.mul_nonneg ha.1 hb.1, Int.mul_le_mul ha.2 hb.2 hb.1 (Int.le_trans ha.1 ha.2)⟩
theorem getD_bd {l : List Int} {m : Int} (h : ∀ x ∈ l, 0 ≤ x ∧ x ≤ m) (hm : 0 ≤ m) (i : Nat) : 0 ≤ l.getD i 0 ∧ l.getD i 0 ≤ m := by
  by_cases hi : i < l.length
  · have := h l[i] (List.getElem_mem hi)
    rw [List.getD_eq_getElem?_getD, List.getElem?_eq_getElem hi]; exact this
  · rw [List.getD_eq_getElem?_getD, List.getElem?_eq_none (by omega)]; exact ⟨Int.le_refl _, hm⟩

def badTerms (fr fl cap : Int) : Bool := !(btw 0 fr 64) || !(btw 0 cap 1073741824) || !(btw 0 fl cap)
def errT (b : Bool) : Int := if b then 22 else 0
theorem errT_ne (b : Bool) : (errT b ≠ 0) = (b = true) := by cases b <;> simp [errT]
theorem errT_eq (b : Bool) : (errT b = 0) = (b = false) := by cases b <;> simp [errT]
theorem badTerms_no {fr fl cap : Int} (h : badTerms fr fl cap = false) : (0 ≤ fr ∧ fr ≤ 64) ∧ (0 ≤ cap ∧ cap ≤ 1073741824) ∧ (0 ≤ fl ∧ fl ≤ cap) := by
  simp only [badTerms, btw, Bool.or_eq_false_iff, Bool.not_eq_false', Bool.and_eq_true, decide_eq_true_eq] at h
  omega
def mostOf (fr fl cap lo : Int) : Int := min (if lo * fr / 64 < fl then min fl lo else lo * fr / 64) cap
/-- what is lent at most; the error -/
def MostN (fr fl cap lo hi : Int) : Int := if badTerms fr fl cap then 0 else if spanOk lo hi 2147483648 then mostOf fr fl cap lo else 0
def MostE (fr fl cap lo hi : Int) : Int := if badTerms fr fl cap then 22 else if spanOk lo hi 2147483648 then 0 else 7
def LendN (fr fl cap lo hi wish : Int) : Int :=
  if MostE fr fl cap lo hi = 0 then (if btw 1 wish 1073741824 then (if MostN fr fl cap lo hi = 0 then 0 else min (MostN fr fl cap lo hi) wish) else 0) else 0
def LendE (fr fl cap lo hi wish : Int) : Int :=
  if MostE fr fl cap lo hi = 0 then (if btw 1 wish 1073741824 then (if MostN fr fl cap lo hi = 0 then 4 else 0) else 7) else MostE fr fl cap lo hi
end Go.Proofs.YtafmgkiddhappaaDoor
namespace Go.Proofs.YtafmgkiddhappaaDoor
open Go.Sx Go.RowKit

structure Deal where
  lr : Int
  lc : Int
  tr : Int
  tf : Int
  te : Int
  tt : Int
  tg : Int
  closed : List Int
  start : Int
  sum : Int
  deriving DecidableEq
/-- a loan on its way -/
structure Ln where
  pr : Int
  ch : Int
  pd : Int
  ag : Int
  op : Bool
  all : Int
  dear : Int
  days : Int
  fees : Int
  day : Int
  held : Int
  deriving DecidableEq
abbrev encDeal (d : Deal) (Ac : Option Addr) (cc : Nat) : List Value := [.int .i64 d.lr, .int .i64 d.lc, .int .i64 d.tr, .int .i64 d.tf, .int .i64 d.te, .int .i64 d.tt, .int .i64 d.tg, .slice Ac d.closed.length cc, .int .i64 d.start, .int .i64 d.sum]
abbrev encLn (d : Deal) (Ac : Option Addr) (cc : Nat) (x : Ln) : List Value := [.int .i64 x.pr, .int .i64 x.ch, .int .i64 x.pd, .int .i64 x.ag, .bool x.op, .int .i64 x.all, .int .i64 x.dear, .int .i64 x.days, .int .i64 x.fees, .int .i64 d.lr, .int .i64 d.lc, .int .i64 d.tr, .int .i64 d.tf, .int .i64 d.te, .int .i64 d.tt, .int .i64 d.tg, .slice Ac d.closed.length cc, .int .i64 d.start, .int .i64 d.sum, .int .i64 x.day, .int .i64 x.held]
/-- an account -/
structure Acc where
  pr : Int
  ch : Int
  pd : Int
  ag : Int
  op : Bool
  deriving DecidableEq, Inhabited
abbrev encAcc (a : Acc) : List Value := [.int .i64 a.pr, .int .i64 a.ch, .int .i64 a.pd, .int .i64 a.ag, .bool a.op]
def Ln.acc (x : Ln) : Acc := ⟨x.pr, x.ch, x.pd, x.ag, x.op⟩
/-- an act -/
structure Act1 where
  day : Int
  kind : Int
  n : Int
  deriving DecidableEq, Inhabited
abbrev encAct (a : Act1) : List Value := [.int .i64 a.day, .int .i64 a.kind, .int .i64 a.n]

def prevOf (l : List Int) (k : Nat) : Int := if k = 0 then -1 else l.getD (k - 1) 0
def ascOk : Int → List Int → Bool
  | _, [] => true
  | p, n :: l => btw 0 n 36500 && decide (p < n) && ascOk n l
theorem ascOk_drop (l : List Int) (k : Nat) (x : Int) (h : l[k]? = some x) : ascOk (prevOf l k) (l.drop k) = (btw 0 x 36500 && decide (prevOf l k < x) && ascOk (prevOf l (k + 1)) (l.drop (k + 1))) := by
  obtain ⟨h1, h2⟩ := List.getElem?_eq_some_iff.1 h
  rw [List.drop_eq_getElem_cons h1, h2, ascOk]
  have : prevOf l (k + 1) = x := by simp [prevOf, h]
  rw [this]
theorem asc_V (l : List Int) (k : Nat) (n : Int) : (!(btw 0 n 36500) || (decide ((0 : Int) < k) && decide (n ≤ l.getD ((k : Int) - 1).toNat 0))) = !(btw 0 n 36500 && decide (prevOf l k < n)) := by
  cases hb : btw 0 n 36500
  · rfl
  · have h1 : 0 ≤ n := by simp only [btw, Bool.and_eq_true, decide_eq_true_eq] at hb; omega
    by_cases h0 : k = 0
    · subst h0
      have h2 : (-1 : Int) < n := by omega
      simp [prevOf, h2]
    · have h2 : (0 : Int) < k := by omega
      have h3 : ((k : Int) - 1).toNat = k - 1 := by omega
      simp only [prevOf, if_neg h0, decide_eq_true h2, h3, Bool.true_and, Bool.not_true, Bool.false_or]
      by_cases h4 : n ≤ l.getD (k - 1) 0
      · rw [decide_eq_true h4, decide_eq_false (by omega)]; rfl
      · rw [decide_eq_false h4, decide_eq_true (by omega)]; rfl
def badDeal1 (d : Deal) : Bool := !(btw 0 d.lr 10000) || !(btw 0 d.lc 64) || !(btw 0 d.tr 10000) || !(btw 0 d.tf 31) || !(btw 0 d.te 10000) || !(btw 1 d.tt 366) || !(btw 0 d.tg 60)
def badDeal2 (d : Deal) : Bool := decide (64 < (d.closed.length : Int)) || !(btw 0 d.start 36500) || !(btw 1 d.sum 1073741824)
def badDeal (d : Deal) : Bool := badDeal1 d || badDeal2 d || !(ascOk (-1) d.closed)
def errD (b : Bool) : Int := if b then 23 else 0
theorem errD_ne (b : Bool) : (errD b ≠ 0) = (b = true) := by cases b <;> simp [errD]
theorem errD_eq (b : Bool) : (errD b = 0) = (b = false) := by cases b <;> simp [errD]
structure DealOk (d : Deal) : Prop where
  lr : 0 ≤ d.lr ∧ d.lr ≤ 10000
  lc : 0 ≤ d.lc ∧ d.lc ≤ 64
  tr : 0 ≤ d.tr ∧ d.tr ≤ 10000
  tf : 0 ≤ d.tf ∧ d.tf ≤ 31
  te : 0 ≤ d.te ∧ d.te ≤ 10000
  tt : 1 ≤ d.tt ∧ d.tt ≤ 366
  tg : 0 ≤ d.tg ∧ d.tg ≤ 60
  len : d.closed.length ≤ 64
  start : 0 ≤ d.start ∧ d.start ≤ 36500
  sum : 1 ≤ d.sum ∧ d.sum ≤ 1073741824
  asc : ascOk (-1) d.closed = true
theorem badDeal_no {d : Deal} (h : badDeal d = false) : DealOk d := by
  simp only [badDeal, badDeal1, badDeal2, btw, Bool.or_eq_false_iff, Bool.not_eq_false', Bool.and_eq_true, decide_eq_true_eq, decide_eq_false_iff_not] at h
  exact ⟨by omega, by omega, by omega, by omega, by omega, by omega, by omega, by omega, by omega, by omega, h.2⟩

def countsB (d : Deal) (x : Ln) (day : Int) : Bool := x.op && decide (x.held < day) && !(decide (0 ≤ seek d.closed day 0))
def limitOf (d : Deal) (x : Ln) : Int := min (x.all * d.lr / 1000000) (d.sum * d.lc / 64)
def chargeOf (d : Deal) (x : Ln) : Int := min (x.dear * d.tr / 1000000 + x.fees) (limitOf d x)
def counted (d : Deal) (x : Ln) : Ln := { x with days := x.days + 1, ag := x.ag + 1, all := x.all + x.pr, dear := if d.tf < x.days + 1 then x.dear + x.pr else x.dear }
def stepDay (d : Deal) (x : Ln) : Ln := { (if countsB d x (x.day + 1) then counted d x else x) with day := x.day + 1 }
def goN (d : Deal) : Nat → Ln → Ln
  | 0, x => x
  | k + 1, x => goN d k (stepDay d x)
def sumsNe (x y : Ln) : Bool := !((x.all == y.all) && (x.dear == y.dear) && (x.days == y.days) && (x.fees == y.fees))
def toL (d : Deal) (x : Ln) (day : Int) : Ln := if sumsNe (goN d (day - x.day).toNat x) x then { goN d (day - x.day).toNat x with ch := chargeOf d (goN d (day - x.day).toNat x) } else goN d (day - x.day).toNat x
/-- bounds that hold throughout -/
structure LOk (x : Ln) : Prop where
  pr : 0 ≤ x.pr ∧ x.pr ≤ 1073741824
  day : 0 ≤ x.day ∧ x.day ≤ 36500
  days : 0 ≤ x.days ∧ x.days ≤ x.day
  ag : 0 ≤ x.ag ∧ x.ag ≤ x.day
  all : 0 ≤ x.all ∧ x.all ≤ 1073741824 * x.day
  dear : 0 ≤ x.dear ∧ x.dear ≤ 1073741824 * x.day
  fees : 0 ≤ x.fees ∧ x.fees ≤ 1000000000
  ch : 0 ≤ x.ch ∧ x.ch ≤ 400000000000
  pd : 0 ≤ x.pd ∧ x.pd ≤ 400000000000
theorem LOk.step {d : Deal} {x : Ln} (h : LOk x) (hd : x.day + 1 ≤ 36500) : LOk (stepDay d x) := by
  obtain ⟨h1, h2, h3, h4, h5, h6, h7, h8, h9⟩ := h
  unfold stepDay counted
  split
  · refine ⟨h1, ?_, ?_, ?_, ?_, ?_, h7, h8, h9⟩ <;> simp only <;> first | omega | (split <;> omega)
  · refine ⟨h1, ?_, ?_, ?_, ?_, ?_, h7, h8, h9⟩ <;> simp only <;> omega
theorem stepDay_day (d : Deal) (x : Ln) : (stepDay d x).day = x.day + 1 := rfl
theorem LOk.lim {d : Deal} {x : Ln} (hd : DealOk d) (h : LOk x) : (0 ≤ x.all * d.lr ∧ x.all * d.lr ≤ 391915765760000000) ∧ (0 ≤ d.sum * d.lc ∧ d.sum * d.lc ≤ 68719476736) ∧ (0 ≤ x.dear * d.tr ∧ x.dear * d.tr ≤ 391915765760000000) := by
  have h1 := h.day; have h2 := h.all; have h3 := h.dear; have h4 := hd.sum
  have e1 := mul_bd (x := 39191576576000) (show 0 ≤ x.all ∧ x.all ≤ 39191576576000 by omega) hd.lr
  have e2 := mul_bd (show 0 ≤ d.sum ∧ d.sum ≤ 1073741824 by omega) hd.lc
  have e3 := mul_bd (x := 39191576576000) (show 0 ≤ x.dear ∧ x.dear ≤ 39191576576000 by omega) hd.tr
  omega
theorem chargeOf_bd {d : Deal} {x : Ln} (hd : DealOk d) (h : LOk x) : 0 ≤ chargeOf d x ∧ chargeOf d x ≤ 400000000000 := by
  obtain ⟨h1, h2, h3⟩ := h.lim hd
  have := h.fees
  unfold chargeOf limitOf
  omega
theorem goN_ok {d : Deal} : ∀ (k : Nat) (x : Ln), LOk x → x.day + k ≤ 36500 → LOk (goN d k x)
  | 0, _, h, _ => h
  | k + 1, x, h, hk => goN_ok k _ (h.step (by omega)) (by rw [stepDay_day]; omega)
theorem toL_ok {d : Deal} {x : Ln} {day : Int} (hd : DealOk d) (h : LOk x) (hday : day ≤ 36500) : LOk (toL d x day) := by
  have h1 : LOk (goN d (day - x.day).toNat x) := goN_ok _ _ h (by have := h.day; omega)
  unfold toL
  split
  · exact ⟨h1.pr, h1.day, h1.days, h1.ag, h1.all, h1.dear, h1.fees, chargeOf_bd hd h1, h1.pd⟩
  · exact h1
theorem goN_day (d : Deal) : ∀ (k : Nat) (x : Ln), (goN d k x).day = x.day + k
  | 0, x => by simp [goN]
  | k + 1, x => by rw [goN, goN_day d k, stepDay_day]; omega
theorem toL_day (d : Deal) (x : Ln) (day : Int) : (toL d x day).day = x.day + (day - x.day).toNat := by
  unfold toL
  split
  · exact goN_day d _ x
  · exact goN_day d _ x
def openL (d : Deal) : Ln := ⟨d.sum, 0, 0, 0, true, 0, 0, 0, 0, d.start, d.start⟩
theorem openL_ok {d : Deal} (hd : DealOk d) : LOk (openL d) := by
  have h1 := hd.sum; have h2 := hd.start
  refine ⟨?_, h2, ?_, ?_, ?_, ?_, ?_, ?_, ?_⟩ <;> simp only [openL] <;> omega
def overB (d : Deal) (x : Ln) : Bool := decide (d.tt + d.tg < x.ag)
def payE (x : Ln) (n : Int) : Int := if x.ch - x.pd + x.pr ≤ n then 6 else 0
def payL (x : Ln) (n : Int) : Ln := if x.ch - x.pd + x.pr ≤ n then x else { x with pd := x.pd + min n (x.ch - x.pd), pr := x.pr - max 0 (n - (x.ch - x.pd)) }
def feeL (d : Deal) (x : Ln) : Ln := { x with fees := x.fees + d.te }
def renewL (d : Deal) (x : Ln) : Ln := { feeL d x with ch := chargeOf d (feeL d x), pd := chargeOf d (feeL d x), ag := 0 }
def holdE (x : Ln) : Int := if x.day + 1 ≤ x.held then 26 else 0
def holdL (x : Ln) (n : Int) : Ln := if x.day + 1 ≤ x.held then x else { x with held := x.day + n }
def redeemL (x : Ln) : Ln := { x with pd := x.ch, pr := 0, op := false }
theorem feeL_ok {d : Deal} {x : Ln} (hd : DealOk d) (h : LOk x) (hf : x.fees ≤ 999990000) : LOk (feeL d x) :=
  ⟨h.pr, h.day, h.days, h.ag, h.all, h.dear, by have := hd.te; have := h.fees; simp only [feeL]; omega, h.ch, h.pd⟩
theorem renewL_ok {d : Deal} {x : Ln} (hd : DealOk d) (h : LOk x) (hf : x.fees ≤ 999990000) : LOk (renewL d x) := by
  have h1 := feeL_ok hd h hf
  have h2 := chargeOf_bd hd h1
  exact ⟨h1.pr, h1.day, h1.days, by have := h.day; simp only [renewL, feeL]; omega, h1.all, h1.dear, h1.fees, h2, h2⟩
theorem payL_ok {x : Ln} {n : Int} (h : LOk x) (hn : 1 ≤ n ∧ n ≤ 1073741824) : LOk (payL x n) := by
  unfold payL
  split
  · exact h
  · have h1 := h.pr; have h2 := h.ch; have h3 := h.pd
    exact ⟨by simp only; omega, h.day, h.days, h.ag, h.all, h.dear, h.fees, h.ch, by simp only; omega⟩
theorem holdL_ok {x : Ln} {n : Int} (h : LOk x) : LOk (holdL x n) := by
  unfold holdL
  split
  · exact h
  · exact ⟨h.pr, h.day, h.days, h.ag, h.all, h.dear, h.fees, h.ch, h.pd⟩
theorem redeemL_ok {x : Ln} (h : LOk x) : LOk (redeemL x) := ⟨by simp only [redeemL]; omega, h.day, h.days, h.ag, h.all, h.dear, h.fees, h.ch, h.ch⟩
end Go.Proofs.YtafmgkiddhappaaDoor
namespace Go.Proofs.YtafmgkiddhappaaDoor
open Go.Sx Go.RowKit

def keepMu (until_ : Int) (x : Ln) : Nat := 2 * (until_ - x.day).toNat + (if x.ag = 0 then 0 else 1)
def keepF (d : Deal) (until_ : Int) : Nat → Ln → List Int → List Int
  | 0, _, out => out
  | n + 1, x, out => if until_ ≤ x.day then out else if overB d (toL d x (x.day + 1)) then keepF d until_ n (renewL d x) (out ++ [x.day]) else keepF d until_ n (toL d x (x.day + 1)) out
theorem keepF_end (d : Deal) (until_ : Int) (n : Nat) (x : Ln) (out : List Int) (h : until_ ≤ x.day) : keepF d until_ n x out = out := by
  cases n with
  | zero => rfl
  | succ n => rw [keepF, if_pos h]
def keepL (d : Deal) (until_ : Int) : List Int := keepF d until_ (keepMu until_ (openL d)) (openL d) []
theorem toL_one (d : Deal) (x : Ln) : (toL d x (x.day + 1)).day = x.day + 1 := by rw [toL_day]; omega
theorem goN_one (d : Deal) (x : Ln) : goN d (x.day + 1 - x.day).toNat x = stepDay d x := by
  rw [show (x.day + 1 - x.day).toNat = 1 by omega]; rfl
theorem toL_one_ag (d : Deal) (x : Ln) : (toL d x (x.day + 1)).ag ≤ x.ag + 1 ∧ x.ag ≤ (toL d x (x.day + 1)).ag := by
  unfold toL
  rw [goN_one]
  unfold stepDay counted
  repeat' split
  all_goals simp only
  all_goals omega
theorem toL_one_fees (d : Deal) (x : Ln) : (toL d x (x.day + 1)).fees = x.fees := by
  unfold toL
  rw [goN_one]
  unfold stepDay counted
  repeat' split
  all_goals rfl
def KeepN (d : Deal) (until_ : Int) : List Int := if badDeal d then [] else if btw d.start until_ 36500 then (if 32 < (keepL d until_).length then [] else keepL d until_) else []
def KeepE (d : Deal) (until_ : Int) : Int := if badDeal d then 23 else if btw d.start until_ 36500 then (if 32 < (keepL d until_).length then 3 else 0) else 7
end Go.Proofs.YtafmgkiddhappaaDoor
namespace Go.Proofs.YtafmgkiddhappaaDoor
open Go.Sx Go.RowKit

def deedV (k : Int) : Value := if k = 1 then .iface 191 (.agg #[]) else if k = 2 then .iface 192 (.agg #[]) else if k = 3 then .iface 193 (.agg #[]) else if k = 4 then .iface 194 (.agg #[]) else .nilIface
def isNilK (k : Int) : Bool := !(decide (1 ≤ k) && decide (k ≤ 4))
def okKind (k n : Int) : Bool := if k = 1 then btw 1 n 1073741824 else if k = 2 then n == 0 else if k = 3 then btw 1 n 366 else if k = 4 then n == 0 else false
theorem kinds {k : Int} (h : isNilK k = false) : k = 1 ∨ k = 2 ∨ k = 3 ∨ k = 4 := by
  have := not_f h
  simp only [Bool.and_eq_true, decide_eq_true_eq] at this
  omega
theorem okKind_nil {k n : Int} (h : isNilK k = true) : okKind k n = false := by
  have := not_t h
  simp only [Bool.and_eq_false_iff, decide_eq_false_iff_not] at this
  unfold okKind
  rw [if_neg (by omega), if_neg (by omega), if_neg (by omega), if_neg (by omega)]
def okAct (last pk : Int) (a : Act1) : Bool := okKind a.kind a.n && btw last a.day 36500 && !(pk == 4)
def actsF : Int → Int → List Act1 → Bool
  | _, _, [] => true
  | last, pk, a :: l => okAct last pk a && actsF a.day a.kind l
def actsOk (d : Deal) (l : List Act1) : Bool := actsF d.start 0 l && decide ((l.length : Int) ≤ 32)
def pkOf (l : List Act1) (k : Nat) : Int := if k = 0 then 0 else (l.getD (k - 1) default).kind
theorem actsF_drop (l : List Act1) (k : Nat) (a : Act1) (last : Int) (h : l[k]? = some a) : actsF last (pkOf l k) (l.drop k) = (okAct last (pkOf l k) a && actsF a.day (pkOf l (k + 1)) (l.drop (k + 1))) := by
  obtain ⟨h1, h2⟩ := List.getElem?_eq_some_iff.1 h
  rw [List.drop_eq_getElem_cons h1, h2, actsF]
  have : pkOf l (k + 1) = a.kind := by simp [pkOf, h]
  rw [this]
theorem act_V (l : List Act1) (k : Nat) (last : Int) (a : Act1) :
    ((isNilK a.kind || !(okKind a.kind a.n)) || !(btw last a.day 36500) || (decide ((0 : Int) < k) && ((l.getD ((k : Int) - 1).toNat default).kind == 4))) = !(okAct last (pkOf l k) a) := by
  unfold okAct
  cases hn : isNilK a.kind
  · cases hk : okKind a.kind a.n
    · rfl
    · cases hb : btw last a.day 36500
      · rfl
      · by_cases h0 : k = 0
        · subst h0; simp [pkOf]
        · have h2 : (0 : Int) < k := by omega
          have h3 : ((k : Int) - 1).toNat = k - 1 := by omega
          rw [pkOf, if_neg h0, h3, decide_eq_true h2]; simp
  · rw [okKind_nil hn]; rfl
def actE (_ : Deal) (y : Ln) (a : Act1) : Int := if a.kind = 1 then payE y a.n else if a.kind = 3 then holdE y else 0
def actL (d : Deal) (y : Ln) (a : Act1) : Ln := if a.kind = 1 then payL y a.n else if a.kind = 2 then renewL d y else if a.kind = 3 then holdL y a.n else redeemL y
structure RunR where
  x : Ln
  out : List Acc
  at_ : Int
  e : Int
def runF (d : Deal) : Int → Ln → List Acc → Int → Int → List Act1 → RunR
  | _, x, out, at_, e, [] => ⟨x, out, at_, e⟩
  | i, x, out, _, _, a :: l =>
    if overB d (toL d x a.day) then ⟨toL d x a.day, out, i, 25⟩
    else if actE d (toL d x a.day) a = 0 then runF d (i + 1) (actL d (toL d x a.day) a) (out ++ [(actL d (toL d x a.day) a).acc]) (i + 1) 0 l
    else ⟨actL d (toL d x a.day) a, out, i, actE d (toL d x a.day) a⟩
def runL (d : Deal) (l : List Act1) : RunR := runF d 0 (openL d) [] 0 0 l
theorem encAcc_len (a : Acc) : (encAcc a).length = 5 := rfl
theorem encAcc_one (a : Acc) : ∀ v ∈ encAcc a, v.oneCell' = true := by simp [encAcc, Value.oneCell']
end Go.Proofs.YtafmgkiddhappaaDoor
namespace Go.Proofs.YtafmgkiddhappaaDoor
open Go.Sx Go.RowKit

abbrev WAYS : List Value := [.func (.func 147) #[] #[], .func (.func 66) #[] #[], .func (.func 148) #[] #[], .func (.func 149) #[] #[]]
def wayV (k : Int) : Value := if k = 1 then .func (.func 147) #[] #[] else if k = 2 then .func (.func 66) #[] #[] else if k = 3 then .func (.func 148) #[] #[] else .func (.func 149) #[] #[]
theorem okKind_kinds {k n : Int} (h : okKind k n = true) : k = 1 ∨ k = 2 ∨ k = 3 ∨ k = 4 := by
  cases hn : isNilK k
  · exact kinds hn
  · rw [okKind_nil hn] at h; cases h
theorem way_at {k : Int} (h : k = 1 ∨ k = 2 ∨ k = 3 ∨ k = 4) : WAYS[0 + (k - 1).toNat * 1]? = some (wayV k) := by
  rcases h with rfl | rfl | rfl | rfl <;> rfl
theorem actsF_mem : ∀ (l : List Act1) (last pk : Int), actsF last pk l = true → ∀ a ∈ l, okKind a.kind a.n = true ∧ a.day ≤ 36500
  | [], _, _, _, a, ha => by cases ha
  | b :: l, last, pk, h, a, ha => by
    rw [actsF, Bool.and_eq_true] at h
    rcases List.mem_cons.1 ha with rfl | ha
    · have := h.1
      simp only [okAct, btw, Bool.and_eq_true, decide_eq_true_eq] at this
      exact ⟨this.1.1, this.1.2.2⟩
    · exact actsF_mem l _ _ h.2 a ha
theorem actsOk_mem {d : Deal} {l : List Act1} (h : actsOk d l = true) : (∀ a ∈ l, okKind a.kind a.n = true ∧ a.day ≤ 36500) ∧ l.length ≤ 32 := by
  rw [actsOk, Bool.and_eq_true, decide_eq_true_eq] at h
  exact ⟨actsF_mem l _ _ h.1, by omega⟩
theorem goN_fees (d : Deal) : ∀ (k : Nat) (x : Ln), (goN d k x).fees = x.fees
  | 0, _ => rfl
  | k + 1, x => by
    rw [goN, goN_fees d k]
    unfold stepDay counted
    split <;> rfl
theorem toL_fees (d : Deal) (x : Ln) (day : Int) : (toL d x day).fees = x.fees := by
  unfold toL
  split
  · exact goN_fees d _ x
  · exact goN_fees d _ x
theorem actL_fees {d : Deal} {y : Ln} {a : Act1} (hd : DealOk d) : (actL d y a).fees ≤ y.fees + 10000 := by
  have := hd.te
  unfold actL payL holdL renewL feeL redeemL
  repeat' split
  all_goals first | omega | (simp only; omega)
theorem actL_ok {d : Deal} {y : Ln} {a : Act1} (hd : DealOk d) (hy : LOk y) (hk : okKind a.kind a.n = true) (hf : y.fees ≤ 999990000) : LOk (actL d y a) := by
  unfold actL
  by_cases h1 : a.kind = 1
  · rw [if_pos h1]
    rw [okKind, if_pos h1] at hk
    simp only [btw, Bool.and_eq_true, decide_eq_true_eq] at hk
    exact payL_ok hy hk
  · rw [if_neg h1]
    by_cases h2 : a.kind = 2
    · rw [if_pos h2]; exact renewL_ok hd hy hf
    · rw [if_neg h2]
      by_cases h3 : a.kind = 3
      · rw [if_pos h3]; exact holdL_ok hy
      · rw [if_neg h3]; exact redeemL_ok hy
theorem runF_nil (d : Deal) (i : Int) (x : Ln) (out : List Acc) (at_ e : Int) : runF d i x out at_ e [] = ⟨x, out, at_, e⟩ := rfl
theorem runF_drop (d : Deal) (l : List Act1) (k : Nat) (a : Act1) (i : Int) (x : Ln) (out : List Acc) (at_ e : Int) (h : l[k]? = some a) : runF d i x out at_ e (l.drop k) =
    if overB d (toL d x a.day) then ⟨toL d x a.day, out, i, 25⟩
    else if actE d (toL d x a.day) a = 0 then runF d (i + 1) (actL d (toL d x a.day) a) (out ++ [(actL d (toL d x a.day) a).acc]) (i + 1) 0 (l.drop (k + 1))
    else ⟨actL d (toL d x a.day) a, out, i, actE d (toL d x a.day) a⟩ := by
  obtain ⟨h1, h2⟩ := List.getElem?_eq_some_iff.1 h
  rw [List.drop_eq_getElem_cons h1, h2, runF]
end Go.Proofs.YtafmgkiddhappaaDoor
namespace Go.Proofs.YtafmgkiddhappaaDoor
open Go.Sx Go.RowKit

abbrev zeroLn : List Value := [.int .i64 0, .int .i64 0, .int .i64 0, .int .i64 0, .bool false, .int .i64 0, .int .i64 0, .int .i64 0, .int .i64 0, .int .i64 0, .int .i64 0, .int .i64 0, .int .i64 0, .int .i64 0, .int .i64 0, .int .i64 0, .slice none 0 0, .int .i64 0, .int .i64 0, .int .i64 0, .int .i64 0]
def askOk (d : Deal) (l : List Act1) : Bool := !(badDeal d) && actsOk d l
def askE (d : Deal) (l : List Act1) : Int := if badDeal d then 23 else if actsOk d l then 0 else 24
def onOk (d : Deal) (l : List Act1) (n : Int) : Bool := askOk d l && (runL d l).e == 0 && btw (runL d l).x.day n 36500
def onE (d : Deal) (l : List Act1) (n : Int) : Int := if askOk d l then (if (runL d l).e = 0 then (if btw (runL d l).x.day n 36500 then 0 else 7) else (runL d l).e) else askE d l
theorem askOk_parts {d : Deal} {l : List Act1} (h : askOk d l = true) : badDeal d = false ∧ actsOk d l = true := by
  rw [askOk, Bool.and_eq_true] at h
  exact ⟨not_t h.1, h.2⟩
theorem askOk_not {d : Deal} {l : List Act1} (h : askOk d l = false) : badDeal d = true ∨ (badDeal d = false ∧ actsOk d l = false) := by
  cases hb : badDeal d
  · rw [askOk, hb] at h; exact .inr ⟨rfl, by simpa using h⟩
  · exact .inl rfl
theorem askE_ne {d : Deal} {l : List Act1} (h : askOk d l = false) : askE d l ≠ 0 := by
  rcases askOk_not h with h | ⟨h1, h2⟩
  · simp [askE, h]
  · simp [askE, h1, h2]
theorem onOk_parts {d : Deal} {l : List Act1} {n : Int} (h : onOk d l n = true) : askOk d l = true ∧ (runL d l).e = 0 ∧ btw (runL d l).x.day n 36500 = true := by
  simp only [onOk, Bool.and_eq_true, beq_iff_eq] at h
  exact ⟨h.1.1, h.1.2, h.2⟩
theorem onE_yes {d : Deal} {l : List Act1} {n : Int} (h : onOk d l n = true) : onE d l n = 0 := by
  obtain ⟨h1, h2, h3⟩ := onOk_parts h
  rw [onE, if_pos h1, if_pos h2, if_pos h3]
theorem onE_ne {d : Deal} {l : List Act1} {n : Int} (h : onOk d l n = false) : onE d l n ≠ 0 := by
  unfold onE
  cases h1 : askOk d l
  · simpa using askE_ne h1
  · rw [if_pos rfl]
    by_cases h2 : (runL d l).e = 0
    · rw [if_pos h2]
      cases h3 : btw (runL d l).x.day n 36500
      · simp
      · rw [onOk, h1, h3, h2] at h; simp at h
    · rw [if_neg h2]; exact h2
theorem runF_ok {d : Deal} (hd : DealOk d) : ∀ (l : List Act1) (i : Int) (x : Ln) (out : List Acc) (at_ e : Int), LOk x → x.fees + 10000 * l.length ≤ 999990000 → (∀ a ∈ l, okKind a.kind a.n = true ∧ a.day ≤ 36500) → LOk (runF d i x out at_ e l).x
  | [], _, _, _, _, _, h, _, _ => h
  | a :: l, i, x, out, at_, e, h, hf, ha => by
    have h1 := ha a (List.mem_cons_self ..)
    have h2 := toL_ok hd h h1.2
    have h3 := toL_fees d x a.day
    simp only [List.length_cons] at hf
    have h4 : LOk (actL d (toL d x a.day) a) := actL_ok hd h2 h1.1 (by omega)
    have h5 : (actL d (toL d x a.day) a).fees ≤ (toL d x a.day).fees + 10000 := actL_fees hd
    rw [runF]
    split
    · exact h2
    · split
      · exact runF_ok hd l _ _ _ _ _ h4 (by omega) (fun b hb => ha b (List.mem_cons_of_mem _ hb))
      · exact h4
theorem runL_ok {d : Deal} {l : List Act1} (h : askOk d l = true) : LOk (runL d l).x := by
  obtain ⟨h1, h2⟩ := askOk_parts h
  have hd := badDeal_no h1
  obtain ⟨h3, h4⟩ := actsOk_mem h2
  exact runF_ok hd l _ _ _ _ _ (openL_ok hd) (by simp only [openL]; omega) h3
def OweA (d : Deal) (l : List Act1) (n : Int) : Acc := if onOk d l n then (toL d (runL d l).x n).acc else ⟨0, 0, 0, 0, false⟩
def LegalN (d : Deal) (l : List Act1) (n : Int) : Int := if onOk d l n then limitOf d (toL d (runL d l).x n) else 0
end Go.Proofs.YtafmgkiddhappaaDoor
namespace Go.Proofs.YtafmgkiddhappaaDoor
open Go.Sx Go.RowKit

abbrev mSales : List Sale := [⟨0, 800, 10, 40, 1000⟩, ⟨0, 434, 20, 50, 2000⟩, ⟨0, 70, 10, 30, 900⟩, ⟨1, 0, 5, 10, 40⟩]
abbrev mFade : List Int := [32, 64]
abbrev dealD : Deal := ⟨1000, 16, 500, 2, 50, 10, 3, [103, 104], 100, 100000⟩
theorem ex_crafts : CraftsL mSales mFade 50 800 2 0 = [150, 500, 600] := by decide +kernel
theorem ex_craftsE : CraftsE mSales mFade 50 800 2 0 = 0 := by decide +kernel
theorem ex_value : (valueOf mSales mFade 50 800 2 0 10 12).lo = 650 ∧ (valueOf mSales mFade 50 800 2 0 10 12).hi = 1200 ∧ (valueOf mSales mFade 50 800 2 0 10 12).err = 0 := by decide +kernel
theorem ex_most : MostN 40 300 5000 400 900 = 300 ∧ MostE 40 300 5000 400 900 = 0 := by decide +kernel
theorem ex_lend : LendN 40 300 5000 650 1200 1000 = 406 ∧ LendE 40 300 5000 650 1200 1000 = 0 := by decide +kernel
theorem ex_owe1 : OweA dealD [] 112 = ⟨100000, 400, 0, 10, true⟩ ∧ onE dealD [] 112 = 0 := by decide +kernel
theorem ex_owe2 : OweA dealD [⟨105, 2, 0⟩] 112 = ⟨100000, 450, 100, 7, true⟩ ∧ onE dealD [⟨105, 2, 0⟩] 112 = 0 := by decide +kernel
theorem ex_owe3 : OweA dealD [⟨105, 1, 20050⟩] 112 = ⟨80000, 330, 50, 10, true⟩ ∧ onE dealD [⟨105, 1, 20050⟩] 112 = 0 := by decide +kernel
theorem ex_owe4 : OweA dealD [⟨105, 3, 5⟩] 112 = ⟨100000, 150, 0, 5, true⟩ ∧ onE dealD [⟨105, 3, 5⟩] 112 = 0 := by decide +kernel
theorem ex_legal : LegalN dealD [] 105 = 300 ∧ onE dealD [] 105 = 0 := by decide +kernel
theorem ex_keep : KeepN dealD 140 = [115, 128] ∧ KeepE dealD 140 = 0 := by decide +kernel
end Go.Proofs.YtafmgkiddhappaaDoor
namespace Go.Proofs.YtafmgkiddhappaaDoor
open Go.Sx Go.RowKit

theorem valueOf_err {sales : List Sale} {fade : List Int} {metal day few kind wmin wmax : Int} (h : (valueOf sales fade metal day few kind wmin wmax).err ≠ 0) : (valueOf sales fade metal day few kind wmin wmax).lo = 0 ∧ (valueOf sales fade metal day few kind wmin wmax).hi = 0 := by
  unfold valueOf at h ⊢
  split at h
  · rename_i h1; rw [if_pos h1]; exact ⟨rfl, rfl⟩
  · rename_i h1; rw [if_neg h1]
    split at h
    · rename_i h2; rw [if_pos h2]; exact ⟨rfl, rfl⟩
    · rename_i h2; rw [if_neg h2]
      split at h
      · rename_i h3; rw [if_pos h3]; exact ⟨rfl, rfl⟩
      · exact absurd rfl h
theorem valueOf_ok {sales : List Sale} {fade : List Int} {metal day few kind wmin wmax : Int} (h : (valueOf sales fade metal day few kind wmin wmax).err = 0) :
    badMarket sales fade metal day few = false ∧ badWare fade.length kind wmin wmax = false ∧ few ≤ ((craftsOf sales fade day kind).length : Int) ∧ valueOf sales fade metal day few kind wmin wmax = midOf (craftsOf sales fade day kind) metal wmin wmax := by
  unfold valueOf at h ⊢
  cases h1 : badMarket sales fade metal day few
  · cases h2 : badWare fade.length kind wmin wmax
    · by_cases h3 : ((craftsOf sales fade day kind).length : Int) < few
      · rw [h1, h2] at h; simp [h3] at h
      · refine ⟨rfl, rfl, by omega, ?_⟩
        simp [h3]
    · rw [h1, h2] at h; simp at h
  · rw [h1] at h; simp at h
theorem badMarket_metal {sales : List Sale} {fade : List Int} {metal m2 day few : Int} (h : badMarket sales fade metal day few = false) (hm : 0 ≤ m2 ∧ m2 ≤ 100000) : badMarket sales fade m2 day few = false := by
  obtain ⟨_, _, h3, _⟩ := badMarket_parts h
  have e1 : btw 0 metal 100000 = true := by simp only [btw, Bool.and_eq_true, decide_eq_true_eq]; exact h3
  have e2 : btw 0 m2 100000 = true := by simp only [btw, Bool.and_eq_true, decide_eq_true_eq]; exact hm
  unfold badMarket badM at *
  rw [e1] at h
  rw [e2]; exact h
theorem valueOf_mk {sales : List Sale} {fade : List Int} {metal day few kind wmin wmax : Int} (h1 : badMarket sales fade metal day few = false) (h2 : badWare fade.length kind wmin wmax = false) (h3 : few ≤ ((craftsOf sales fade day kind).length : Int)) :
    valueOf sales fade metal day few kind wmin wmax = midOf (craftsOf sales fade day kind) metal wmin wmax := by
  unfold valueOf
  rw [h1, h2, if_neg (by simp), if_neg (by simp), if_neg (by omega)]
theorem CraftsL_ok {sales : List Sale} {fade : List Int} {metal day few kind wmin wmax : Int} (h1 : badMarket sales fade metal day few = false) (h2 : badWare fade.length kind wmin wmax = false) :
    CraftsL sales fade metal day few kind = craftsOf sales fade day kind ∧ CraftsE sales fade metal day few kind = 0 := by
  have h3 : btw 0 kind (fade.length - 1) = true := by
    obtain ⟨hk, _⟩ := badWare_no h2
    simp only [btw, Bool.and_eq_true, decide_eq_true_eq]; exact hk
  exact ⟨by simp [CraftsL, h1, h3], by simp [CraftsE, h1, h3]⟩
theorem sorted_getD {l : List Int} (h : l.Pairwise (· ≤ ·)) {i j : Nat} (hij : i ≤ j) (hj : j < l.length) : l.getD i 0 ≤ l.getD j 0 := by
  rw [List.getD_eq_getElem?_getD, List.getD_eq_getElem?_getD, List.getElem?_eq_getElem hj, List.getElem?_eq_getElem (by omega)]
  rcases Nat.lt_or_ge i j with h1 | h1
  · exact List.pairwise_iff_getElem.1 h i j (by omega) hj h1
  · have : i = j := by omega
    subst this; exact Int.le_refl _
theorem ring_bd (n m : Int) (h : 0 < m) : 0 ≤ ringI n m ∧ ringI n m < m := by
  unfold ringI
  rw [if_neg (by omega)]
  have h1 := Int.tmod_lt_of_pos n h
  have h2 := Int.lt_tmod_of_pos n h
  have h3 : 0 ≤ n.tmod m + m := by omega
  rw [Int.tmod_eq_emod_of_nonneg h3]
  exact ⟨Int.emod_nonneg _ (by omega), Int.emod_lt_of_pos _ h⟩
theorem middle {l : List Int} (h : l.Pairwise (· ≤ ·)) (q : Nat) (hq : 4 * q < l.length) : l.length ≤ 2 * l.countP (fun x => btw (l.getD q 0) x (l.getD (l.length - 1 - q) 0)) := by
  have hs : ((l.drop q).take (l.length - 2 * q)).Sublist l := (List.take_sublist ..).trans (List.drop_sublist ..)
  have h1 : ((l.drop q).take (l.length - 2 * q)).countP (fun x => btw (l.getD q 0) x (l.getD (l.length - 1 - q) 0)) ≤ l.countP (fun x => btw (l.getD q 0) x (l.getD (l.length - 1 - q) 0)) := hs.countP_le
  have h2 : ((l.drop q).take (l.length - 2 * q)).countP (fun x => btw (l.getD q 0) x (l.getD (l.length - 1 - q) 0)) = ((l.drop q).take (l.length - 2 * q)).length := by
    refine List.countP_eq_length.2 fun x hx => ?_
    obtain ⟨i, hi, rfl⟩ := List.getElem_of_mem hx
    simp only [List.length_take, List.length_drop] at hi
    have e : ((l.drop q).take (l.length - 2 * q))[i] = l.getD (q + i) 0 := by
      rw [List.getElem_take, List.getElem_drop, List.getD_eq_getElem?_getD, List.getElem?_eq_getElem (by omega)]; rfl
    rw [e]
    simp only [btw, Bool.and_eq_true, decide_eq_true_eq]
    exact ⟨sorted_getD h (by omega) (by omega), sorted_getD h (by omega) (by omega)⟩
  rw [h2] at h1
  simp only [List.length_take, List.length_drop] at h1
  omega
theorem countP_take {l : List Int} (p : Int → Bool) (i : Nat) (x : Int) (h : l[i]? = some x) : (l.take (i + 1)).countP p = (l.take i).countP p + (if p x then 1 else 0) := by
  rw [List.take_add_one, h]
  simp only [Option.toList, List.countP_append, List.countP_cons, List.countP_nil]
  omega
end Go.Proofs.YtafmgkiddhappaaDoor
