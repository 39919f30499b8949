/- Texts of ours, joined: 9 of them. Conditions: none. -/
import Derived.Test.YtlfbghkcfmcnlaaZh
import Derived.Sort.Walk0
import Derived.Test.YtlfbghkcfmcnlaaProg
import Derived.Laws.StructEq
namespace Go.Proofs.Ytlfbghkcfmcnlaa
open Go.Sx Go.RowKit

/-! ### Words -/
theorem firstS_at (s : ByteArray) : ∀ (l : List ByteArray) (k n : Nat), l[k]? = some s → (firstS s l n == ((n + k : Nat) : Int)) = !(hasW (l.take k) s)
  | [], k, n, h => by simp at h
  | q :: l, 0, n, h => by
    simp only [List.getElem?_cons_zero, Option.some.injEq] at h
    subst h
    rw [firstS, if_pos rfl]; simp [hasW]
  | q :: l, k + 1, n, h => by
    rw [firstS, List.take_succ_cons]
    show _ = !(decide (q = s) || hasW (l.take k) s)
    by_cases hq : q = s
    · rw [if_pos hq, decide_eq_true hq]
      simp only [Bool.true_or, Bool.not_true, beq_eq_false_iff_ne, ne_eq]; omega
    · rw [if_neg hq, decide_eq_false hq, Bool.false_or]
      have := firstS_at s l k (n + 1) (by simpa using h)
      rw [show n + (k + 1) = n + 1 + k by omega]; exact this
def diffG (full : List ByteArray) : List ByteArray → Nat → Bool
  | [], _ => true
  | s :: r, k => (isW s && (firstS s full 0 == (k : Int))) && diffG full r (k + 1)
theorem diffG_drop (full l : List ByteArray) (k : Nat) (s : ByteArray) (h : l[k]? = some s) : diffG full (l.drop k) k = ((isW s && (firstS s full 0 == (k : Int))) && diffG full (l.drop (k + 1)) (k + 1)) := by
  obtain ⟨h1, h2⟩ := List.getElem?_eq_some_iff.1 h
  rw [List.drop_eq_getElem_cons h1, h2, diffG]
theorem diffG_words (full : List ByteArray) : ∀ (l pre : List ByteArray), full = pre ++ l → diffG full l pre.length = wordsG pre l
  | [], _, _ => rfl
  | s :: l, pre, h => by
    rw [diffG, wordsG]
    have h1 := firstS_at s full pre.length 0 (by rw [h]; simp)
    rw [Nat.zero_add] at h1
    rw [h1, show full.take pre.length = pre by rw [h]; simp]
    have := diffG_words full l (pre ++ [s]) (by rw [h]; simp)
    rw [List.length_append] at this
    exact congrArg _ this
theorem diff_words (l : List ByteArray) : diffG l l 0 = wordsB l := diffG_words l l [] rfl
theorem hasW_iff {l : List ByteArray} {s : ByteArray} : hasW l s = true ↔ s ∈ l := by
  unfold hasW
  rw [List.any_eq_true]
  constructor
  · rintro ⟨q, hq, h⟩; rw [← of_decide_eq_true h]; exact hq
  · intro h; exact ⟨s, h, decide_eq_true rfl⟩
theorem wordsG_nd : ∀ (pre l : List ByteArray), wordsG pre l = true → l.Nodup ∧ ∀ s ∈ l, s ∉ pre
  | _, [], _ => by simp
  | pre, s :: l, h => by
    simp only [wordsG, Bool.and_eq_true, Bool.not_eq_true'] at h
    obtain ⟨h1, h2⟩ := wordsG_nd (pre ++ [s]) l h.2
    refine ⟨List.nodup_cons.2 ⟨fun hm => h2 s hm (by simp), h1⟩, fun t ht => ?_⟩
    rcases List.mem_cons.1 ht with rfl | ht
    · intro hm
      have := hasW_iff.2 hm
      rw [this] at h; exact absurd h.1.2 (by simp)
    · exact fun hm => h2 t ht (by simp [hm])
theorem nodup_le {α : Type} [DecidableEq α] : ∀ (a b : List α), a.Nodup → (∀ x ∈ a, x ∈ b) → a.length ≤ b.length
  | [], _, _, _ => Nat.zero_le _
  | x :: a, b, hn, h => by
    have h1 := List.nodup_cons.1 hn
    have hx : x ∈ b := h x (List.mem_cons_self ..)
    have h2 := nodup_le a (b.erase x) h1.2 (fun y hy => by
      have hne : y ≠ x := fun e => h1.1 (e ▸ hy)
      exact (List.mem_erase_of_ne hne).2 (h y (List.mem_cons_of_mem _ hy)))
    have h3 := List.length_erase_of_mem hx
    have h4 : 0 < b.length := List.length_pos_of_mem hx
    simp only [List.length_cons]; omega
theorem words_nd {l : List ByteArray} (h : wordsB l = true) : l.Nodup := (wordsG_nd [] l h).1
/-- different words that all lie in a list are no more than it has -/
theorem words_few {l ns : List ByteArray} (h : wordsB l = true) (hn : l.all (hasW ns) = true) : l.length ≤ ns.length :=
  nodup_le l ns (words_nd h) (fun s hs => hasW_iff.1 (List.all_eq_true.1 hn s hs))

/-! ### The class of an item -/
/-- the class with a name, by the names -/
def clsOf (l : List ClassV) (s : ByteArray) : Option ClassV := l.find? (fun c => decide (c.name = s))
theorem firstS_cls (s : ByteArray) : ∀ (l : List ClassV) (n : Nat), (match clsOf l s with | none => firstS s (namesC l) n = -1 | some c => ∃ k, l[k]? = some c ∧ firstS s (namesC l) n = ((n + k : Nat) : Int))
  | [], _ => by simp [clsOf, namesC, firstS]
  | c :: l, n => by
    unfold clsOf namesC
    rw [List.find?_cons, List.map_cons, firstS]
    by_cases h : c.name = s
    · rw [if_pos h, decide_eq_true h]
      exact ⟨0, rfl, by simp⟩
    · rw [if_neg h, decide_eq_false h]
      have := firstS_cls s l (n + 1)
      unfold clsOf namesC at this
      simp only
      split
      · rename_i h1; rw [h1] at this; exact this
      · rename_i c' h1
        rw [h1] at this
        obtain ⟨k, hk, he⟩ := this
        exact ⟨k + 1, by simpa using hk, by rw [he]; omega⟩
theorem getL_putL (m : List (ByteArray × ClassV)) (k : ByteArray) (c : ClassV) (s : ByteArray) : getL (putL m k c) s = if k = s then some c else getL m s := by
  induction m with
  | nil => rfl
  | cons p m ih =>
    rw [putL]
    split
    · rename_i h
      rw [getL, getL]
      simp only
      by_cases h2 : k = s
      · rw [if_pos h2, if_pos h2]
      · rw [if_neg h2, if_neg h2, if_neg (by rw [h]; exact h2)]
    · rename_i h
      rw [getL, getL, ih]
      by_cases h2 : p.1 = s
      · rw [if_pos h2, if_pos h2, if_neg (by rw [← h2]; exact fun e => h e.symm)]
      · rw [if_neg h2, if_neg h2]
theorem getL_putAll (s : ByteArray) : ∀ (l : List ClassV) (m : List (ByteArray × ClassV)), (namesC l).Nodup → getL (putAll m l) s = match clsOf l s with | some c => some c | none => getL m s
  | [], m, _ => rfl
  | c :: l, m, hn => by
    unfold namesC at hn
    rw [List.map_cons, List.nodup_cons] at hn
    rw [putAll, getL_putAll s l _ hn.2]
    unfold clsOf
    rw [List.find?_cons]
    by_cases h : c.name = s
    · have hno : l.find? (fun c => decide (c.name = s)) = none := by
        rw [List.find?_eq_none]
        intro d hd
        simp only [decide_eq_true_eq]
        intro e
        exact hn.1 (List.mem_map.2 ⟨d, hd, e.trans h.symm⟩)
      rw [hno, decide_eq_true h]
      simp only
      rw [getL_putL, if_pos h]
    · rw [decide_eq_false h]
      simp only
      split
      · rfl
      · rw [getL_putL, if_neg h]
theorem getL_gram {l : List ClassV} (h : gramOk l = true) (s : ByteArray) : getL (gramM l) s = clsOf l s := by
  simp only [gramOk, Bool.and_eq_true] at h
  have := getL_putAll s l [] (words_nd h.2.1)
  unfold gramM
  rw [this]
  split
  · rename_i h; rw [h]
  · rename_i h; rw [h]; rfl

/-! ### Valid, and counting -/
mutual
def valI (l : List ClassV) : ItemV → Int → Bool
  | .mk cls _ _ says _ _ parts, deep =>
    match clsOf l cls with
    | none => false
    | some c => if 3 < deep ∨ says.length ≠ c.traits.length ∨ c.most < (parts.length : Int) then false else saysOk c.traits says && valL l c.parts parts deep
def valL (l : List ClassV) (cp : List ByteArray) : List ItemV → Int → Bool
  | [], _ => true
  | p :: r, deep => (hasW cp p.cls && valI l p (deep + 1)) && valL l cp r deep
end
theorem valL_drop (l : List ClassV) (cp : List ByteArray) (r : List ItemV) (deep : Int) (k : Nat) (p : ItemV) (h : r[k]? = some p) : valL l cp (r.drop k) deep = ((hasW cp p.cls && valI l p (deep + 1)) && valL l cp (r.drop (k + 1)) deep) := by
  obtain ⟨h1, h2⟩ := List.getElem?_eq_some_iff.1 h
  rw [List.drop_eq_getElem_cons h1, h2, valL]
theorem valI_eq (l : List ClassV) (x : ItemV) (deep : Int) : valI l x deep = match clsOf l x.cls with
    | none => false
    | some c => if 3 < deep ∨ x.says.length ≠ c.traits.length ∨ c.most < (x.parts.length : Int) then false else saysOk c.traits x.says && valL l c.parts x.parts deep := by
  obtain ⟨cls, As, cs, says, Ap, cp, parts⟩ := x
  rw [valI]; rfl
mutual
theorem fits_val {l : List ClassV} (hg : gramOk l = true) : ∀ (x : ItemV) (deep most n : Int), fitsI (gramM l) x deep most = some n → valI l x deep = true
  | .mk cls As cs says Ap cp parts, deep, most, n, h => by
    unfold fitsI at h
    rw [getL_gram hg] at h
    rw [valI]
    split at h
    · cases h
    · rename_i c hc
      rw [hc]
      split at h
      · cases h
      · rename_i hn
        split at h
        · rename_i hso
          simp only
          rw [if_neg (by omega), hso, fitsL_val hg _ parts deep most 1 n h]; rfl
        · cases h
theorem fitsL_val {l : List ClassV} (hg : gramOk l = true) (cp : List ByteArray) : ∀ (r : List ItemV) (deep most many n : Int), fitsL (gramM l) cp r deep most many = some n → valL l cp r deep = true
  | [], _, _, _, _, _ => by rw [valL]
  | p :: r, deep, most, many, n, h => by
    unfold fitsL at h
    split at h
    · rename_i hw
      split at h
      · cases h
      · rename_i m hm
        rw [valL, hw, fits_val hg p _ _ m hm, fitsL_val hg cp r deep most (many + m) n h]; rfl
    · cases h
end
mutual
theorem val_fits {l : List ClassV} (hg : gramOk l = true) : ∀ (x : ItemV) (deep most : Int), valI l x deep = true → cntT x.pl ≤ most → fitsI (gramM l) x deep most = some (cntT x.pl)
  | .mk cls As cs says Ap cp parts, deep, most, h, hm => by
    rw [valI] at h
    rw [ItemV.pl, cntT] at hm ⊢
    unfold fitsI
    rw [getL_gram hg]
    split at h
    · cases h
    · rename_i c hc
      rw [hc]
      simp only
      split at h
      · cases h
      · rename_i hn
        simp only [Bool.and_eq_true] at h
        have hp := cntL_pos (plL parts)
        rw [if_neg (by omega), if_pos h.1, valL_fits hg _ parts deep most 1 h.2 (by omega)]
theorem valL_fits {l : List ClassV} (hg : gramOk l = true) (cp : List ByteArray) : ∀ (r : List ItemV) (deep most many : Int), valL l cp r deep = true → many + cntL (plL r) ≤ most → fitsL (gramM l) cp r deep most many = some (many + cntL (plL r))
  | [], _, _, _, _, _ => by unfold fitsL; rw [plL, cntL]; simp
  | p :: r, deep, most, many, h, hm => by
    rw [valL] at h
    simp only [Bool.and_eq_true] at h
    rw [plL, cntL] at hm ⊢
    have hp := cntL_pos (plL r)
    unfold fitsL
    rw [if_pos h.1.1, val_fits hg p (deep + 1) (most - many) h.1.2 (by omega)]
    simp only
    rw [valL_fits hg cp r deep most (many + cntT p.pl) h.2 (by omega)]
    congr 1; omega
end
/-- the program's check and the reference's -/
theorem itemOk_ref {l : List ClassV} (hg : gramOk l = true) (x : ItemV) : itemOk l x = (valI l x 1 && decide (cntT x.pl ≤ 24)) := by
  unfold itemOk
  cases h : fitsI (gramM l) x 1 24 with
  | some n =>
    obtain ⟨_, h2⟩ := fitsI_T hg x 1 24 n h
    have h3 := (fitsI_bd _ x 1 24 n h).2
    rw [fits_val hg x 1 24 n h, decide_eq_true (by omega)]; rfl
  | none =>
    cases h1 : valI l x 1 with
    | false => rfl
    | true =>
      by_cases h2 : cntT x.pl ≤ 24
      · rw [val_fits hg x 1 24 h1 h2] at h; cases h
      · rw [decide_eq_false h2]; rfl
mutual
/-- how many a valid description has at most, by how deep it lies -/
theorem val_cnt {l : List ClassV} (hg : gramOk l = true) : ∀ (x : ItemV) (deep : Int), valI l x deep = true → 1 ≤ deep → deep ≤ 3 ∧ OkT (gramM l) x.pl ∧ cntT x.pl ≤ (if deep = 3 then 7 else if deep = 2 then 49 else 343)
  | .mk cls As cs says Ap cp parts, deep, h, hd => by
    rw [valI] at h
    split at h
    · cases h
    · rename_i c hc
      split at h
      · cases h
      · rename_i hn
        simp only [Bool.and_eq_true] at h
        have hcg : getL (gramM l) cls = some c := by rw [getL_gram hg, hc]
        obtain ⟨hcl, hcn⟩ := gram_get hcg
        have hok := gram_cls hg c hcl
        have h2 := valL_cnt hg _ parts deep h.2 hd
        have h6 : parts.length ≤ 6 := by have := hok.most; omega
        refine ⟨by omega, .mk ⟨c, hcg, by rw [pl_says]; show says.length = _; omega, hok.few, fun t ht => isW_size (hok.tn t ht)⟩ (by rw [pl_cls]; show cls.size ≤ 16; rw [← hcn]; exact isW_size hok.name) (by rw [pl_says]; exact fun s hs => sz16 (says_sz _ _ hok.tv (by omega) h.1 s hs)) (by rw [pl_parts, List.length_map]; exact h6) (by rw [pl_parts, ← plL_map]; exact fun p hp => (h2.1 p hp)), ?_⟩
        rw [ItemV.pl, cntT]
        have h3 := h2.2
        by_cases e3 : deep = 3
        · rw [if_pos e3] at h3 ⊢; omega
        · by_cases e2 : deep = 2
          · rw [if_neg e3, if_pos e2] at h3 ⊢; omega
          · rw [if_neg e3, if_neg e2] at h3 ⊢; omega
theorem valL_cnt {l : List ClassV} (hg : gramOk l = true) (cp : List ByteArray) : ∀ (r : List ItemV) (deep : Int), valL l cp r deep = true → 1 ≤ deep → (∀ p ∈ plL r, OkT (gramM l) p) ∧ cntL (plL r) ≤ (if deep = 3 then 0 else if deep = 2 then 7 else 49) * r.length
  | [], _, _, _ => by rw [plL, cntL]; simp
  | p :: r, deep, h, hd => by
    rw [valL] at h
    simp only [Bool.and_eq_true] at h
    have h1 := val_cnt hg p (deep + 1) h.1.2 (by omega)
    have h2 := valL_cnt hg cp r deep h.2 hd
    rw [plL, cntL]
    refine ⟨fun q hq => ?_, ?_⟩
    · rcases List.mem_cons.1 hq with rfl | hq
      · exact h1.2.1
      · exact h2.1 q hq
    · have h3 := h1.2.2
      have h4 := h2.2
      rw [List.length_cons]
      by_cases e3 : deep = 3
      · omega
      · by_cases e2 : deep = 2
        · rw [if_neg e3, if_pos e2] at h4 ⊢; rw [if_pos (by omega)] at h3; omega
        · rw [if_neg e3, if_neg e2] at h4 ⊢; rw [if_neg (by omega), if_pos (by omega)] at h3; omega
end
mutual
/-- how deep a description is -/
def depT : IT → Nat
  | .mk _ _ parts => 1 + depL parts
def depL : List IT → Nat
  | [] => 0
  | p :: l => max (depT p) (depL l)
end
theorem depT_eq (x : IT) : depT x = 1 + depL x.parts := by obtain ⟨_, _, _⟩ := x; rw [depT]; rfl
theorem depL_le : ∀ (l : List IT) (p : IT), p ∈ l → depT p ≤ depL l
  | q :: l, p, h => by
    rw [depL]
    rcases List.mem_cons.1 h with rfl | h
    · omega
    · have := depL_le l p h; omega
mutual
theorem val_dep {l : List ClassV} : ∀ (x : ItemV) (deep : Int), valI l x deep = true → (depT x.pl : Int) + deep ≤ 4
  | .mk cls As cs says Ap cp parts, deep, h => by
    rw [valI] at h
    split at h
    · cases h
    · split at h
      · cases h
      · simp only [Bool.and_eq_true] at h
        have := valL_dep _ parts deep h.2
        rw [ItemV.pl, depT]; omega
theorem valL_dep {l : List ClassV} (cp : List ByteArray) : ∀ (r : List ItemV) (deep : Int), valL l cp r deep = true → (depL (plL r) : Int) + deep ≤ 3 ∨ depL (plL r) = 0
  | [], _, _ => .inr (by rw [plL, depL])
  | p :: r, deep, h => by
    rw [valL] at h
    simp only [Bool.and_eq_true] at h
    have h1 := val_dep p (deep + 1) h.1.2
    have h2 := valL_dep cp r deep h.2
    rw [plL, depL]; omega
end
/-! ### As the reference's text has it -/
theorem diff_V (a : Bool) (n m : Int) : (!a || (n != m)) = !(a && (n == m)) := by cases a <;> simp [bne]
def cls1R (c : ClassV) : Bool := (((((decide ((c.traits.length : Int) ≤ 8) && wordsB (c.traits.map (·.name))) && decide ((c.parts.length : Int) ≤ 12)) && wordsB c.parts) && (decide (0 ≤ c.most) && decide (c.most ≤ 6))) && ((c.most == 0) || decide (0 < (c.parts.length : Int))))
theorem traitOk_V (t : TraitV) : traitOk t = ((decide (1 ≤ (t.vals.length : Int)) && decide ((t.vals.length : Int) ≤ 8)) && wordsB t.vals) := by
  unfold traitOk
  cases (decide (1 ≤ (t.vals.length : Int)) && decide ((t.vals.length : Int) ≤ 8)) <;> cases wordsB t.vals <;> rfl
theorem class_ref {ns : List ByteArray} (h : ns.length ≤ 12) (c : ClassV) : ((cls1R c && c.traits.all traitOk) && c.parts.all (hasW ns)) = classOk ns c := by
  unfold classOk
  cases hp : c.parts.all (hasW ns) with
  | false => simp
  | true =>
    cases ht : c.traits.all traitOk with
    | false => simp
    | true =>
      cases hn : wordsB (c.traits.map (·.name)) with
      | false => unfold cls1R; rw [hn]; simp
      | true =>
        cases hw : wordsB c.parts with
        | false => unfold cls1R class1; rw [hw]; simp
        | true =>
          have h12 := words_few hw hp
          unfold cls1R class1
          rw [hn, hw]
          simp only [Bool.and_true]
          rw [Bool.eq_iff_iff]
          simp only [Bool.and_eq_true, Bool.or_eq_true, decide_eq_true_eq, beq_iff_eq, Bool.not_eq_true', Bool.or_eq_false_iff, Bool.and_eq_false_iff, decide_eq_false_iff_not, Bool.not_eq_false', bne, beq_eq_false_iff_ne, ne_eq, Bool.not_true, and_true]
          omega
theorem ok_end {ok : Bool} {n k : Nat} {r x : Bool} (h : (ok && decide ((k : Int) < (n : Nat))) = false) (hk : k ≤ n) (hr : n ≤ k → r = true) (hx : (ok && r) = x) : ok = x := by
  cases ok with
  | false => exact hx
  | true =>
    rw [Bool.true_and, decide_eq_false_iff_not] at h
    rw [← hx, hr (by omega)]; rfl
theorem firstS_neg (s : ByteArray) (l : List ByteArray) (n : Nat) : decide (firstS s l n < 0) = !(hasW l s) := by
  rw [← firstS_has s l n]
  by_cases h : 0 ≤ firstS s l n
  · rw [decide_eq_true h, decide_eq_false (by omega)]; rfl
  · rw [decide_eq_false h, decide_eq_true (by omega)]; rfl
theorem val_none {l : List ClassV} {x : ItemV} {deep : Int} (h : (((!((clsOf l x.cls).isSome) || decide (3 < deep)) || ((x.says.length : Int) != (((clsOf l x.cls).getD zC).traits.length : Int))) || decide (((clsOf l x.cls).getD zC).most < (x.parts.length : Int))) = true) : valI l x deep = false := by
  rw [valI_eq]
  cases hc : clsOf l x.cls with
  | none => rfl
  | some c =>
    rw [hc] at h
    simp only [Option.isSome_some, Option.getD_some, Bool.not_true, Bool.false_or, Bool.or_eq_true, decide_eq_true_eq, bne_iff_ne, ne_eq] at h
    simp only
    rw [if_pos (by omega)]
theorem val_some {l : List ClassV} {x : ItemV} {deep : Int} (h : (((!((clsOf l x.cls).isSome) || decide (3 < deep)) || ((x.says.length : Int) != (((clsOf l x.cls).getD zC).traits.length : Int))) || decide (((clsOf l x.cls).getD zC).most < (x.parts.length : Int))) = false) :
    ∃ c, clsOf l x.cls = some c ∧ c ∈ l ∧ deep ≤ 3 ∧ x.says.length = c.traits.length ∧ valI l x deep = (saysOk c.traits x.says && valL l c.parts x.parts deep) := by
  rw [valI_eq]
  cases hc : clsOf l x.cls with
  | none => rw [hc] at h; simp at h
  | some c =>
    rw [hc] at h
    simp only [Option.isSome_some, Option.getD_some, Bool.not_true, Bool.false_or, Bool.or_eq_false_iff, decide_eq_false_iff_not, bne_eq_false_iff_eq] at h
    refine ⟨c, rfl, List.mem_of_find?_eq_some hc, by omega, by omega, ?_⟩
    simp only
    rw [if_neg (by omega)]
mutual
theorem sd_bd {g : List (ByteArray × ClassV)} : ∀ x : IT, OkT g x → 0 ≤ sdT x ∧ sdT x ≤ 8 * cntT x
  | .mk cls says parts, h => by
    obtain ⟨c, _, h1, h2, _⟩ := h.get
    simp only [IT.says] at h1
    have h3 := saidN_bd says
    have h4 := sdL_bd parts h.pt
    rw [sdT, cntT]; omega
theorem sdL_bd {g : List (ByteArray × ClassV)} : ∀ l : List IT, (∀ p ∈ l, OkT g p) → 0 ≤ sdL l ∧ sdL l ≤ 8 * cntL l
  | [], _ => by rw [sdL, cntL]; omega
  | p :: l, h => by
    have h1 := sd_bd p (h p (List.mem_cons_self ..))
    have h2 := sdL_bd l (fun q hq => h q (List.mem_cons_of_mem _ hq))
    rw [sdL, cntL]; omega
end
theorem cntL_drop (l : List ItemV) (k : Nat) (q : ItemV) (h : l[k]? = some q) : cntL (plL (l.drop k)) = cntT q.pl + cntL (plL (l.drop (k + 1))) ∧ sdL (plL (l.drop k)) = sdT q.pl + sdL (plL (l.drop (k + 1))) := by
  obtain ⟨h1, h2⟩ := List.getElem?_eq_some_iff.1 h
  rw [List.drop_eq_getElem_cons h1, h2, plL, cntL, sdL]; exact ⟨rfl, rfl⟩
theorem ask_r1 {l : List ClassV} (x : ItemV) (h : gramOk l = false) : askIE l [x] = 10 := by rw [askIE, h]; rfl
theorem ask_r2 {l : List ClassV} {x : ItemV} (h : gramOk l = true) (hv : valI l x 1 = false) : askIE l [x] = 11 := by
  simp [askIE, h, itemOk_ref h, hv]
theorem ask_r3 {l : List ClassV} {x : ItemV} (h : gramOk l = true) (hc : ¬ cntT x.pl ≤ 24) : askIE l [x] = 11 := by
  simp [askIE, h, itemOk_ref h, hc]
theorem ask_r4 {l : List ClassV} {x : ItemV} (h : gramOk l = true) (hv : valI l x 1 = true) (hc : cntT x.pl ≤ 24) : askIE l [x] = 0 := by
  simp [askIE, h, itemOk_ref h, hv, hc]
theorem gram_0 {l : List ClassV} (h : (gramE l != 0) = false) : gramOk l = true := by
  unfold gramE at h; cases h1 : gramOk l <;> simp [h1] at h ⊢
theorem gram_n {l : List ClassV} (h : (gramE l != 0) = true) : gramOk l = false := by
  unfold gramE at h; cases h1 : gramOk l <;> simp [h1] at h ⊢
theorem gram_12 {l : List ClassV} (h : gramOk l = true) : l.length ≤ 12 := by
  simp only [gramOk, Bool.and_eq_true, decide_eq_true_eq] at h
  omega
end Go.Proofs.Ytlfbghkcfmcnlaa
namespace Go.Proofs.Ytlfbghkcfmcnlaa
open Go.Sx Go.RowKit

/-! ### Assigning parts -/
/-- the places of a row from one on, tried one after the other -/
def tryR (f : Nat → Bool) : List Bool → Nat → List Int → Bool
  | [], _, _ => false
  | c :: cs, k, used => ((decide (seek used k 0 < 0) && c) && f k) || tryR f cs (k + 1) used
def asR : List (List Bool) → List Int → Bool
  | [], _ => true
  | row :: rest, used => tryR (fun k => asR rest (used ++ [(k : Int)])) row 0 used
theorem tryR_drop (f : Nat → Bool) (row : List Bool) (k : Nat) (c : Bool) (used : List Int) (h : row[k]? = some c) : tryR f (row.drop k) k used = (((decide (seek used k 0 < 0) && c) && f k) || tryR f (row.drop (k + 1)) (k + 1) used) := by
  obtain ⟨h1, h2⟩ := List.getElem?_eq_some_iff.1 h
  rw [List.drop_eq_getElem_cons h1, h2, tryR]
theorem seek_neg (l : List Int) (n : Int) : ∀ i : Int, 0 ≤ i → (decide (seek l n i < 0) = !(hasI l n)) := by
  induction l with
  | nil => intro i _; rfl
  | cons x l ih =>
    intro i hi
    rw [seek]
    show _ = !(decide (x = n) || hasI l n)
    by_cases h : x = n
    · rw [if_pos h, decide_eq_true h]; simp; exact hi
    · rw [if_neg h, decide_eq_false h, Bool.false_or, ih (i + 1) (by omega)]
/-- flags and a list of numbers tell the same places -/
def flag (n : Nat) (us : List Bool) (used : List Int) : Prop := us.length = n ∧ ∀ k, k < n → us.getD k false = hasI used (k : Int)
theorem flag_set {n : Nat} {us : List Bool} {used : List Int} (h : flag n us used) {k : Nat} (hk : k < n) : flag n (us.set k true) (used ++ [(k : Int)]) := by
  refine ⟨by simp [h.1], fun j hj => ?_⟩
  rw [List.getD_eq_getElem?_getD, List.getElem?_set]
  have e : hasI (used ++ [(k : Int)]) (j : Int) = (hasI used (j : Int) || decide (k = j)) := by
    unfold hasI
    rw [List.any_append, List.any_cons, List.any_nil, Bool.or_false]
    congr 1
    by_cases h : k = j
    · rw [decide_eq_true h]; exact decide_eq_true (by omega)
    · rw [decide_eq_false h]; exact decide_eq_false (by omega)
  rw [e]
  by_cases hkj : k = j
  · rw [if_pos hkj, if_pos (by rw [h.1]; omega), decide_eq_true hkj, Bool.or_true]; rfl
  · rw [if_neg hkj, decide_eq_false hkj, Bool.or_false, ← h.2 j hj, List.getD_eq_getElem?_getD]
theorem set_back {us : List Bool} {k : Nat} (h : us.getD k false = false) : (us.set k true).set k false = us := by
  rw [List.set_set]
  refine List.ext_getElem? fun j => ?_
  rw [List.getElem?_set]
  by_cases e : k = j
  · subst e
    rw [if_pos rfl]
    rw [List.getD_eq_getElem?_getD] at h
    by_cases hl : k < us.length
    · rw [if_pos hl, List.getElem?_eq_getElem hl] at *
      simp only [Option.getD_some] at h
      rw [h]
    · rw [if_neg hl, List.getElem?_eq_none (by omega)]
  · rw [if_neg e]
theorem scan_ref (n : Nat) (f : List Bool → Bool × List Bool) (F : Nat → Bool) (us : List Bool) (used : List Int) (hu : flag n us used)
    (hf : ∀ k, k < n → us.getD k false = false → (f (us.set k true)).1 = F k ∧ ((f (us.set k true)).1 = false → (f (us.set k true)).2 = us.set k true)) :
    ∀ (cs : List Bool) (k : Nat), k + cs.length = n → (scanA f cs k us).1 = tryR F cs k used ∧ ((scanA f cs k us).1 = false → (scanA f cs k us).2 = us)
  | [], k, _ => ⟨rfl, fun _ => rfl⟩
  | c :: cs, k, hk => by
    rw [List.length_cons] at hk
    have hn : decide (seek used (k : Int) 0 < 0) = !(us.getD k false) := by rw [seek_neg used k 0 (by omega), hu.2 k (by omega)]
    have ih := scan_ref n f F us used hu hf cs (k + 1) (by omega)
    rw [scanA, tryR, hn]
    cases h1 : us.getD k false with
    | true => simpa using ih
    | false =>
      cases c with
      | false => simpa using ih
      | true =>
        have h2 := hf k (by omega) h1
        simp only [Bool.not_true, Bool.or_false, Bool.false_eq_true, if_false, Bool.not_false, Bool.true_and]
        cases h3 : (f (us.set k true)).1 with
        | true => rw [if_pos rfl, ← h2.1, h3]; exact ⟨rfl, fun h => by cases h⟩
        | false => rw [if_neg (by simp), h2.2 h3, set_back h1, ← h2.1, h3, Bool.false_or]; exact ih
theorem asg_ref (n : Nat) : ∀ (rows : List (List Bool)) (us : List Bool) (used : List Int), (∀ r ∈ rows, r.length = n) → flag n us used → (asg rows us).1 = asR rows used ∧ ((asg rows us).1 = false → (asg rows us).2 = us)
  | [], us, used, _, _ => ⟨rfl, fun h => by cases h⟩
  | row :: rest, us, used, hr, hu => by
    rw [asg, asR]
    exact scan_ref n _ _ us used hu (fun k hk _ => asg_ref n rest (us.set k true) (used ++ [(k : Int)]) (fun r h => hr r (List.mem_cons_of_mem _ h)) (flag_set hu hk)) row 0 (by rw [Nat.zero_add]; exact hr row (List.mem_cons_self ..))
theorem covRows_len : ∀ (l bs : List ItemV), ∀ r ∈ covRows l bs, r.length = bs.length
  | [], _ => by simp [covRows]
  | p :: l, bs => by
    intro r hr
    rw [covRows] at hr
    rcases List.mem_cons.1 hr with rfl | hr
    · simp
    · exact covRows_len l bs r hr
theorem asg_cov (l bs : List ItemV) : (asg (covRows l bs) (List.replicate bs.length false)).1 = asR (covRows l bs) [] :=
  (asg_ref bs.length _ _ [] (covRows_len l bs) ⟨by simp, fun k hk => by rw [List.getD_eq_getElem?_getD, List.getElem?_replicate, if_pos hk]; rfl⟩).1
theorem covI_ref (a b : ItemV) : covI a b = (decide (a.cls = b.cls) && (saysCov a.says b.says && asR (covRows a.parts b.parts) [])) := by rw [covI_eq, asg_cov]

/-! ### Putting an item where it belongs -/
theorem ltS_eq (a b : ByteArray) : ltS a b = decide (a.data.toList < b.data.toList) := by unfold ltS; exact bytesLess_eq _ _
theorem ltS_tr {a b c : ByteArray} (h1 : ltS a b = true) (h2 : ltS c b = false) : ltS a c = true := by
  rw [ltS_eq] at *
  have h3 := of_decide_eq_true h1
  have h4 := of_decide_eq_false h2
  refine decide_eq_true (Classical.byContradiction fun h5 => h4 (List.lt_of_le_of_lt (List.not_lt.1 h5) h3))
theorem ltS_irr (a : ByteArray) : ltS a a = false := by rw [ltS_eq]; exact decide_eq_false (List.lt_irrefl _)
theorem ltS_asy {a b : ByteArray} (h : ltS a b = true) : ltS b a = false := by
  rw [ltS_eq] at *
  exact decide_eq_false (fun h2 => List.lt_asymm (of_decide_eq_true h) h2)
section
variable {α : Type} (lt : α → α → Bool)
/-- from the left: behind all that do not come behind it -/
def insF (x : α) : List α → Nat → Nat
  | [], k => k
  | y :: l, k => if lt x y then k else insF x l (k + 1)
def insL (P : List α) (x : α) : List α := P.take (insF lt x P 0) ++ x :: P.drop (insF lt x P 0)
def lsort : List α → List α → List α
  | P, [] => P
  | P, x :: l => lsort (insL lt P x) l
theorem insF_drop (x : α) (P : List α) (k : Nat) (y : α) (h : P[k]? = some y) : insF lt x (P.drop k) k = if lt x y then k else insF lt x (P.drop (k + 1)) (k + 1) := by
  obtain ⟨h1, h2⟩ := List.getElem?_eq_some_iff.1 h
  rw [List.drop_eq_getElem_cons h1, h2, insF]
/-- in order: what is on the left does not come behind -/
def InOrd (P : List α) : Prop := P.Pairwise (fun a b => lt b a = false)
structure Weak : Prop where
  tr : ∀ a b c, lt a b = true → lt c b = false → lt a c = true
  asy : ∀ a b, lt a b = true → lt b a = false
variable {lt}
theorem insF_ge (x : α) : ∀ (l : List α) (k : Nat), k ≤ insF lt x l k ∧ insF lt x l k ≤ k + l.length
  | [], k => by simp [insF]
  | y :: l, k => by
    rw [insF]; split
    · simp
    · have := insF_ge x l (k + 1); simp only [List.length_cons]; omega
/-- the place from the left, told from the right -/
theorem insAt_L (hw : Weak lt) (x : α) : ∀ (P : List α), InOrd lt P → ∀ j, j ≤ P.length → (∀ y ∈ P.drop j, lt x y = true) → insAt lt P x j = insL lt P x := by
  intro P hP j
  have key : ∀ (l : List α) (k : Nat), InOrd lt l → (∀ i, i < l.length → (i < insF lt x l k - k ↔ lt x (l.getD i x) = false)) := by
    intro l
    induction l with
    | nil => intro k _ i hi; simp at hi
    | cons y l ih =>
      intro k hl i hi
      unfold InOrd at hl
      rw [List.pairwise_cons] at hl
      rw [insF]
      split
      · rename_i h
        cases i with
        | zero => simp [h]
        | succ i =>
          have hm : l.getD i x ∈ l := by rw [List.getD_eq_getElem?_getD, List.getElem?_eq_getElem (by simpa using hi)]; exact List.getElem_mem _
          have h2 := hl.1 _ hm
          have h3 := hw.tr x y (l.getD i x) h h2
          simp only [List.getD_cons_succ, h3]; simp
      · rename_i h
        have hge := (insF_ge (lt := lt) x l (k + 1)).1
        cases i with
        | zero => simp only [List.getD_cons_zero]; simp only [h, iff_true]; omega
        | succ i =>
          have := ih (k + 1) hl.2 i (by simpa using hi)
          simp only [List.getD_cons_succ]
          rw [← this]; omega
  have hk := key P 0 hP
  have hle := (insF_ge (lt := lt) x P 0).2
  induction j with
  | zero =>
    intro _ hd
    rw [insAt, insL]
    have h0 : insF lt x P 0 = 0 := by
      cases P with
      | nil => rfl
      | cons y P => rw [insF, if_pos (hd y (by simp))]
    rw [h0]; rfl
  | succ j ih =>
    intro hj hd
    have h1 : P[j]? = some P[j] := List.getElem?_eq_getElem (by omega)
    have hg : P.getD j x = P[j] := by rw [List.getD_eq_getElem?_getD, h1]; rfl
    rw [insAt, h1]
    simp only
    split
    · rename_i h
      exact ih (by omega) (fun y hy => by
        rw [List.drop_eq_getElem_cons (show j < P.length by omega)] at hy
        rcases List.mem_cons.1 hy with rfl | hy
        · exact h
        · exact hd y hy)
    · rename_i h
      have h2 := (hk j (by omega)).2 (by rw [hg]; simpa using h)
      have h3 : insF lt x P 0 = j + 1 := by
        by_cases h4 : j + 1 < insF lt x P 0
        · have h5 : j + 1 < P.length := by omega
          have h6 := (hk (j + 1) h5).1 (by omega)
          have h7 : lt x (P.getD (j + 1) x) = true := hd _ (by
            rw [List.getD_eq_getElem?_getD, List.getElem?_eq_getElem h5, List.drop_eq_getElem_cons h5]; exact List.mem_cons_self ..)
          rw [h7] at h6; cases h6
        · omega
      rw [insL, h3]
theorem insL_ord (hw : Weak lt) (P : List α) (x : α) (hP : InOrd lt P) : InOrd lt (insL lt P x) := by
  have key : ∀ (l : List α) (k : Nat), InOrd lt l → (∀ y ∈ l.take (insF lt x l k - k), lt x y = false) ∧ (∀ y ∈ l.drop (insF lt x l k - k), lt x y = true) := by
    intro l
    induction l with
    | nil => intro k _; simp
    | cons y l ih =>
      intro k hl
      unfold InOrd at hl
      rw [List.pairwise_cons] at hl
      rw [insF]
      split
      · rename_i h
        rw [Nat.sub_self]
        refine ⟨by simp, fun z hz => ?_⟩
        rcases List.mem_cons.1 hz with rfl | hz
        · exact h
        · exact hw.tr x y z h (hl.1 z hz)
      · rename_i h
        have hge := (insF_ge (lt := lt) x l (k + 1)).1
        have := ih (k + 1) hl.2
        rw [show insF lt x l (k + 1) - k = (insF lt x l (k + 1) - (k + 1)) + 1 by omega, List.take_succ_cons, List.drop_succ_cons]
        refine ⟨fun z hz => ?_, this.2⟩
        rcases List.mem_cons.1 hz with rfl | hz
        · simpa using h
        · exact this.1 z hz
  have hk := key P 0 hP
  rw [Nat.sub_zero] at hk
  unfold insL InOrd
  have hP2 : (P.take (insF lt x P 0) ++ P.drop (insF lt x P 0)).Pairwise (fun a b => lt b a = false) := by rw [List.take_append_drop]; exact hP
  rw [List.pairwise_append] at hP2 ⊢
  refine ⟨hP2.1, List.pairwise_cons.2 ⟨fun y hy => hw.asy _ _ (hk.2 y hy), hP2.2.1⟩, fun a ha b hb => ?_⟩
  rcases List.mem_cons.1 hb with rfl | hb
  · exact hk.1 a ha
  · exact hP2.2.2 a ha b hb
theorem isort_L (hw : Weak lt) : ∀ (l P : List α), InOrd lt P → isort lt P l = lsort lt P l ∧ InOrd lt (isort lt P l)
  | [], P, hP => ⟨rfl, hP⟩
  | x :: l, P, hP => by
    rw [isort, lsort, insAt_L hw x P hP P.length (Nat.le_refl _) (by simp)]
    exact isort_L hw l _ (insL_ord hw P x hP)
end
theorem insAt_perm0 {α : Type} (lt : α → α → Bool) (P : List α) (x : α) : ∀ j, (insAt lt P x j).Perm (x :: P)
  | 0 => .refl _
  | j + 1 => by
    have h : (P.take (j + 1) ++ x :: P.drop (j + 1)).Perm (x :: P) := by
      refine List.perm_middle.trans (.cons x ?_)
      rw [List.take_append_drop]
    rw [insAt]
    split
    · split
      · exact insAt_perm0 lt P x j
      · exact h
    · exact h
theorem isort_perm0 {α : Type} (lt : α → α → Bool) : ∀ l P : List α, (isort lt P l).Perm (P ++ l)
  | [], P => by rw [isort, List.append_nil]
  | x :: l, P => by
    rw [isort]
    refine (isort_perm0 lt l _).trans ?_
    refine ((insAt_perm0 lt P x _).append_right l).trans ?_
    rw [List.cons_append]
    exact List.perm_middle.symm
theorem insF_map {α β : Type} (f : α → β) (lt : β → β → Bool) (x : α) : ∀ (l : List α) (k : Nat), insF (fun a b => lt (f a) (f b)) x l k = insF lt (f x) (l.map f) k
  | [], _ => rfl
  | y :: l, k => by rw [insF, List.map_cons, insF, insF_map f lt x l]
theorem insL_map {α β : Type} (f : α → β) (lt : β → β → Bool) (P : List α) (x : α) : (insL (fun a b => lt (f a) (f b)) P x).map f = insL lt (P.map f) (f x) := by
  unfold insL
  rw [insF_map, List.map_append, List.map_cons, List.map_take, List.map_drop]
theorem lsort_append {α : Type} (lt : α → α → Bool) : ∀ (l P : List α) (x : α), lsort lt P (l ++ [x]) = insL lt (lsort lt P l) x
  | [], P, x => rfl
  | y :: l, P, x => by rw [List.cons_append, lsort, lsort_append lt l, lsort]
theorem ltT_weak (g : List (ByteArray × ClassV)) : Weak (ltT g) := ⟨fun _ _ _ h1 h2 => ltS_tr h1 h2, fun _ _ h => ltS_asy h⟩
theorem sortT_L (g : List (ByteArray × ClassV)) (x : IT) : sortT g x = .mk x.cls x.says (lsort (ltT g) [] (x.parts.map (sortT g))) := by
  rw [sortT_eq, (isort_L (ltT_weak g) _ [] List.Pairwise.nil).1]

/-! ### The text, put together piece by piece -/
/-- a blank before each -/
def bl : List ByteArray → ByteArray
  | [] => ⟨#[]⟩
  | s :: l => tBl ++ (s ++ bl l)
theorem ba_nil (s : ByteArray) : s ++ (⟨#[]⟩ : ByteArray) = s := ByteArray.append_empty
theorem nil_ba (s : ByteArray) : (⟨#[]⟩ : ByteArray) ++ s = s := ByteArray.empty_append
theorem bl_append : ∀ a b : List ByteArray, bl (a ++ b) = bl a ++ bl b
  | [], b => by rw [List.nil_append, bl]; exact ByteArray.empty_append.symm
  | s :: a, b => by rw [List.cons_append, bl, bl, bl_append a b, ByteArray.append_assoc, ByteArray.append_assoc]
theorem ba_ext {a b : ByteArray} (h : a.data.toList = b.data.toList) : a = b := by
  cases a; cases b; congr 1; exact Array.toList_inj.1 h
theorem ba_app (a b : ByteArray) : (a ++ b).data.toList = a.data.toList ++ b.data.toList := by simp
theorem jn_bl (s : ByteArray) : ∀ l : List ByteArray, jn (s :: l) = s ++ bl l := by
  intro l
  refine ba_ext ?_
  induction l generalizing s with
  | nil => rw [bl]; simp [jn, List.intercalate]
  | cons t l ih =>
    have := ih t
    rw [ba_app, bl, ba_app, ba_app]
    rw [ba_app] at this
    rw [← this]
    simp [jn, List.intercalate]
theorem tok_bl (g : List (ByteArray × ClassV)) (x : IT) : bl (tokT g x) = tBl ++ txtT g x := by
  unfold txtT
  obtain ⟨s, l, h⟩ : ∃ s l, tokT g x = s :: l := by
    cases h : tokT g x with
    | nil => exact absurd h (tok_ne g x)
    | cons s l => exact ⟨s, l, rfl⟩
  rw [h, jn_bl, bl]
theorem txt_eq (g : List (ByteArray × ClassV)) (x : IT) : txtT g x = x.cls ++ (bl (saidTok (traitsOf g x.cls) x.says) ++ (bl (tokP g true x.parts) ++ bl (if x.parts.length = 0 then [] else [tClose]))) := by
  unfold txtT
  rw [tokT_eq, List.cons_append, jn_bl, bl_append, bl_append]
theorem ask2_1 {l : List ClassV} {a : ItemV} (b : ItemV) (h : (askIE l [a] != 0) = true) : askIE l [a, b] = askIE l [a] ∧ CovT l a b = false := by
  have h0 := askIE_no h
  unfold askIE at h ⊢
  unfold CovT
  unfold askIOk at h0 ⊢
  cases h1 : gramOk l <;> cases h2 : itemOk l a <;> simp [h1, h2] at h h0 ⊢
theorem ask2_2 {l : List ClassV} {a b : ItemV} (h : (askIE l [a] != 0) = false) (h' : (askIE l [b] != 0) = true) : askIE l [a, b] = askIE l [b] ∧ CovT l a b = false := by
  have h0 := askIE_ok h
  have h1 := askIE_no h'
  unfold askIE
  unfold CovT
  unfold askIOk at h0 h1 ⊢
  cases e1 : gramOk l <;> cases e2 : itemOk l a <;> cases e3 : itemOk l b <;> simp [e1, e2, e3] at h0 h1 ⊢
theorem ask2_3 {l : List ClassV} {a b : ItemV} (h : (askIE l [a] != 0) = false) (h' : (askIE l [b] != 0) = false) : askIE l [a, b] = 0 ∧ askIOk l [a, b] = true := by
  have h0 := askIE_ok h
  have h1 := askIE_ok h'
  unfold askIE
  unfold askIOk at h0 h1 ⊢
  cases e1 : gramOk l <;> cases e2 : itemOk l a <;> cases e3 : itemOk l b <;> simp [e1, e2, e3] at h0 h1 ⊢
theorem or_step {p r x : Bool} (h : (p || r) = x) (hp : p = false) : r = x := by rw [hp, Bool.false_or] at h; exact h
/-- bytes in order, one after the other -/
def bsl : List UInt8 → List UInt8 → Bool
  | [], [] => false
  | [], _ :: _ => true
  | _ :: _, [] => false
  | a :: x, b :: y => if a = b then bsl x y else decide (a < b)
theorem bsl_lt : ∀ x y : List UInt8, bsl x y = decide (x < y)
  | [], [] => by rw [bsl]; exact (decide_eq_false (List.lt_irrefl _)).symm
  | [], b :: y => by rw [bsl]; exact (decide_eq_true (List.nil_lt_cons b y)).symm
  | a :: x, [] => by rw [bsl]; exact (decide_eq_false (List.not_lt_nil _)).symm
  | a :: x, b :: y => by
    rw [bsl, bsl_lt x y]
    by_cases h : a = b
    · subst h
      rw [if_pos rfl]
      by_cases h2 : x < y
      · rw [decide_eq_true h2, decide_eq_true (List.cons_lt_cons_iff.2 (.inr ⟨rfl, h2⟩))]
      · rw [decide_eq_false h2, decide_eq_false]
        intro h3
        rcases List.cons_lt_cons_iff.1 h3 with h4 | h4
        · exact UInt8.lt_irrefl _ h4
        · exact h2 h4.2
    · rw [if_neg h]
      by_cases h2 : a < b
      · rw [decide_eq_true h2, decide_eq_true (List.cons_lt_cons_iff.2 (.inl h2))]
      · rw [decide_eq_false h2, decide_eq_false]
        intro h3
        rcases List.cons_lt_cons_iff.1 h3 with h4 | h4
        · exact h2 h4
        · exact h h4.1
theorem bsl_S (a b : ByteArray) : bsl (bsOf a) (bsOf b) = ltS a b := by rw [bsl_lt, ltS_eq]
theorem bsl_drop (x y : List UInt8) (k : Nat) (a b : UInt8) (ha : x[k]? = some a) (hb : y[k]? = some b) : bsl (x.drop k) (y.drop k) = if a = b then bsl (x.drop (k + 1)) (y.drop (k + 1)) else decide (a < b) := by
  obtain ⟨h1, h2⟩ := List.getElem?_eq_some_iff.1 ha
  obtain ⟨h3, h4⟩ := List.getElem?_eq_some_iff.1 hb
  rw [List.drop_eq_getElem_cons h1, h2, List.drop_eq_getElem_cons h3, h4, bsl]
theorem bsl_end (x y : List UInt8) (k : Nat) (hx : k ≤ x.length) (hy : k ≤ y.length) (h : x.length ≤ k ∨ y.length ≤ k) : bsl (x.drop k) (y.drop k) = decide ((x.length : Int) < y.length) := by
  by_cases h1 : x.length ≤ k
  · rw [List.drop_of_length_le h1]
    by_cases h2 : y.length ≤ k
    · rw [List.drop_of_length_le h2, decide_eq_false (by omega)]; rfl
    · rw [List.drop_eq_getElem_cons (by omega : k < y.length), decide_eq_true (by omega)]; rfl
  · rw [List.drop_of_length_le (show y.length ≤ k by omega), List.drop_eq_getElem_cons (by omega : k < x.length), decide_eq_false (by omega)]; rfl
theorem u8_ne (a b : UInt8) : (((a.toNat : Int) != (b.toNat : Int)) = !decide (a = b)) := by
  by_cases h : a = b
  · subst h; simp
  · rw [decide_eq_false h]
    simp only [Bool.not_false, bne_iff_ne, ne_eq]
    intro e
    exact h (UInt8.toNat_inj.1 (by omega))
theorem u8_lt (a b : UInt8) : decide ((a.toNat : Int) < (b.toNat : Int)) = decide (a < b) := by
  by_cases h : a < b
  · rw [decide_eq_true h, decide_eq_true]
    have := UInt8.lt_iff_toNat_lt.1 h; omega
  · rw [decide_eq_false h, decide_eq_false]
    intro e
    exact h (UInt8.lt_iff_toNat_lt.2 (by omega))
theorem insF_stop {α : Type} (lt : α → α → Bool) (x : α) (P : List α) (d : α) (j : Nat) (hj : j ≤ P.length) (h : insF lt x (P.drop j) j = insF lt x P 0) (hs : (decide ((j : Int) < (P.length : Nat)) && !(lt x (P.getD j d))) = false) : insF lt x P 0 = j := by
  rw [← h]
  by_cases h1 : j < P.length
  · have h2 : P[j]? = some (P.getD j d) := by rw [List.getD_eq_getElem?_getD, List.getElem?_eq_getElem h1]; rfl
    rw [decide_eq_true (by omega), Bool.true_and] at hs
    rw [insF_drop lt x P j _ h2, if_pos (by simpa using hs)]
  · rw [List.drop_of_length_le (by omega), insF]
theorem insF_go {α : Type} (lt : α → α → Bool) (x : α) (P : List α) (d : α) (j : Nat) (h1 : j < P.length) (h : insF lt x (P.drop j) j = insF lt x P 0) (hs : lt x (P.getD j d) = false) : insF lt x (P.drop (j + 1)) (j + 1) = insF lt x P 0 := by
  have h2 : P[j]? = some (P.getD j d) := by rw [List.getD_eq_getElem?_getD, List.getElem?_eq_getElem h1]; rfl
  rw [insF_drop lt x P j _ h2, if_neg (by rw [hs]; simp)] at h; exact h
theorem bl_cons (s : ByteArray) (l : List ByteArray) : bl (s :: l) = tBl ++ (s ++ bl l) := rfl
theorem lsort_map_snoc (g : List (ByteArray × ClassV)) (ys : List ItemV) (y : ItemV) (zs : List IT) (h : ys.map ItemV.pl = lsort (ltT g) [] zs) : (insL (ltV g) ys y).map ItemV.pl = lsort (ltT g) [] (zs ++ [y.pl]) := by
  rw [lsort_append, ← h]
  exact insL_map ItemV.pl (ltT g) ys y
mutual
theorem dep_sort (g : List (ByteArray × ClassV)) : ∀ x : IT, depT (sortT g x) = depT x
  | .mk cls says parts => by
    rw [sortT_eq, depT, depT]
    show 1 + depL (isort (ltT g) [] (parts.map (sortT g))) = 1 + depL parts
    have h1 : ∀ a b : List IT, a.Perm b → depL a = depL b := by
      intro a b h
      induction h with
      | nil => rfl
      | cons x _ ih => rw [depL, depL, ih]
      | swap x y l => rw [depL, depL, depL, depL]; omega
      | trans _ _ h1 h2 => rw [h1, h2]
    have p1 := isort_perm0 (ltT g) (parts.map (sortT g)) []
    rw [List.nil_append] at p1
    rw [h1 _ _ p1, dep_sortL g parts]
theorem dep_sortL (g : List (ByteArray × ClassV)) : ∀ l : List IT, depL (l.map (sortT g)) = depL l
  | [] => rfl
  | p :: l => by rw [List.map_cons, depL, depL, dep_sort g p, dep_sortL g l]
end
theorem srt_dep {l : List ClassV} (x : ItemV) : depT (SrtT l x) ≤ 4 := by
  unfold SrtT
  cases h : askIOk l [x] with
  | false => exact (show depT zIT ≤ 4 by decide)
  | true =>
    show depT (sortT _ _) ≤ 4
    rw [dep_sort]
    simp only [askIOk, Bool.and_eq_true, List.all_eq_true] at h
    have h1 := h.2 x (by simp)
    rw [itemOk_ref h.1, Bool.and_eq_true] at h1
    have := val_dep x 1 h1.1
    omega
end Go.Proofs.Ytlfbghkcfmcnlaa
namespace Go.Proofs.Ytlfbghkcfmcnlaa
open Go.Sx Go.RowKit

/-- a class's names are words, and different; what is said is a word, or nothing -/
inductive OkN (g : List (ByteArray × ClassV)) : IT → Prop
  | mk {x : IT} (hc : isW x.cls = true) (h : x.says.length = (traitsOf g x.cls).length) (hw : ∀ t ∈ traitsOf g x.cls, isW t.name = true) (hn : ((traitsOf g x.cls).map (·.name)).Nodup) (hs : ∀ s ∈ x.says, s = ⟨#[]⟩ ∨ isW s = true) (hr : ∀ p ∈ x.parts, OkN g p) : OkN g x
theorem OkN.cls {g : List (ByteArray × ClassV)} {x : IT} (h : OkN g x) : isW x.cls = true := by cases h; assumption
theorem OkN.len {g : List (ByteArray × ClassV)} {x : IT} (h : OkN g x) : x.says.length = (traitsOf g x.cls).length := by cases h; assumption
theorem OkN.tw {g : List (ByteArray × ClassV)} {x : IT} (h : OkN g x) : ∀ t ∈ traitsOf g x.cls, isW t.name = true := by cases h; assumption
theorem OkN.tn {g : List (ByteArray × ClassV)} {x : IT} (h : OkN g x) : ((traitsOf g x.cls).map (·.name)).Nodup := by cases h; assumption
theorem OkN.sw {g : List (ByteArray × ClassV)} {x : IT} (h : OkN g x) : ∀ s ∈ x.says, s = ⟨#[]⟩ ∨ isW s = true := by cases h; assumption
theorem OkN.pt {g : List (ByteArray × ClassV)} {x : IT} (h : OkN g x) : ∀ p ∈ x.parts, OkN g p := by cases h; assumption
mutual
theorem val_N {l : List ClassV} (hg : gramOk l = true) : ∀ (x : ItemV) (deep : Int), valI l x deep = true → OkN (gramM l) x.pl
  | .mk cls As cs says Ap cp parts, deep, h => by
    rw [valI] at h
    split at h
    · cases h
    · rename_i c hc
      split at h
      · cases h
      · rename_i hn
        simp only [Bool.and_eq_true] at h
        have hcg : getL (gramM l) cls = some c := by rw [getL_gram hg, hc]
        obtain ⟨hcl, hcn⟩ := gram_get hcg
        have hok := gram_cls hg c hcl
        have htr : traitsOf (gramM l) cls = c.traits := by unfold traitsOf; rw [hcg]; rfl
        have hnd : (c.traits.map (·.name)).Nodup := by
          simp only [gramOk, Bool.and_eq_true, List.all_eq_true] at hg
          have h1 := hg.2.2 c hcl
          simp only [classOk, Bool.and_eq_true] at h1
          exact words_nd h1.2.2.2
        refine .mk (by rw [pl_cls]; show isW cls = true; rw [← hcn]; exact hok.name) (by rw [pl_says, pl_cls]; show says.length = (traitsOf _ cls).length; rw [htr]; omega) ?_ ?_ ?_ ?_
        · rw [pl_cls]; show ∀ t ∈ traitsOf _ cls, _; rw [htr]; exact hok.tn
        · rw [pl_cls]; show ((traitsOf _ cls).map _).Nodup; rw [htr]; exact hnd
        · rw [pl_says]; exact says_sz _ _ hok.tv (by show says.length ≤ _; omega) h.1
        · rw [pl_parts, ← plL_map]; exact valL_N hg _ parts deep h.2
theorem valL_N {l : List ClassV} (hg : gramOk l = true) (cp : List ByteArray) : ∀ (r : List ItemV) (deep : Int), valL l cp r deep = true → ∀ p ∈ plL r, OkN (gramM l) p
  | [], _, _ => by simp [plL]
  | p :: r, deep, h => by
    rw [valL] at h
    simp only [Bool.and_eq_true] at h
    have h1 := val_N hg p (deep + 1) h.1.2
    have h2 := valL_N hg cp r deep h.2
    intro q hq
    rw [plL] at hq
    rcases List.mem_cons.1 hq with rfl | hq
    · exact h1
    · exact h2 q hq
end
theorem ask_N {l : List ClassV} {xs : List ItemV} (h : askIOk l xs = true) : ∀ x ∈ xs, OkN (gramM l) x.pl := by
  intro x hx
  simp only [askIOk, Bool.and_eq_true, List.all_eq_true] at h
  have h1 := h.2 x hx
  rw [itemOk_ref h.1, Bool.and_eq_true] at h1
  exact val_N h.1 x 1 h1.1
theorem sort_N {g : List (ByteArray × ClassV)} {x : IT} (h : OkN g x) : OkN g (sortT g x) := by
  induction h with
  | @mk x hc hl hw hn hs _ ih =>
    refine .mk (by rw [sort_cls]; exact hc) (by rw [sort_says, sort_cls]; exact hl) (by rw [sort_cls]; exact hw) (by rw [sort_cls]; exact hn) (by rw [sort_says]; exact hs) ?_
    intro p hp
    rw [sort_parts, isort_mem] at hp
    rcases hp with hp | hp
    · cases hp
    · obtain ⟨q, hq, rfl⟩ := List.mem_map.1 hp
      exact ih q hq

/-! ### Bytes -/
abbrev by_ (s : ByteArray) : List UInt8 := s.data.toList
theorem w_no {s : ByteArray} (h : isW s = true) (b : UInt8) (hb : okBs b = false) : b ∉ by_ s := by
  simp only [isW, Bool.and_eq_true, List.all_eq_true] at h
  intro hm
  have := h.2 b hm
  rw [hb] at this; cases this
theorem cut_first (c : UInt8) : ∀ (a b a' b' : List UInt8), c ∉ a → c ∉ a' → a ++ c :: b = a' ++ c :: b' → a = a' ∧ b = b'
  | [], b, [], b', _, _, h => by simpa using h
  | [], b, y :: a', b', _, h', h => by
    simp only [List.nil_append, List.cons_append, List.cons.injEq] at h
    exact absurd (by rw [← h.1]; exact List.mem_cons_self ..) h'
  | x :: a, b, [], b', h', _, h => by
    simp only [List.nil_append, List.cons_append, List.cons.injEq] at h
    exact absurd (by rw [h.1]; exact List.mem_cons_self ..) h'
  | x :: a, b, y :: a', b', h1, h2, h => by
    simp only [List.cons_append, List.cons.injEq] at h
    have := cut_first c a b a' b' (fun e => h1 (List.mem_cons_of_mem _ e)) (fun e => h2 (List.mem_cons_of_mem _ e)) h.2
    exact ⟨by rw [h.1, this.1], this.2⟩
theorem eqTok {n s n' s' : ByteArray} (h1 : (61 : UInt8) ∉ by_ n) (h2 : (61 : UInt8) ∉ by_ n') (h : n ++ tEq ++ s = n' ++ tEq ++ s') : n = n' ∧ s = s' := by
  have h3 := congrArg by_ h
  simp only [by_, ba_app] at h3
  have h4 : n.data.toList ++ (61 : UInt8) :: s.data.toList = n'.data.toList ++ (61 : UInt8) :: s'.data.toList := by simpa using h3
  have := cut_first 61 _ _ _ _ h1 h2 h4
  exact ⟨ba_ext this.1, ba_ext this.2⟩
/-- a token that says nothing of a trait -/
abbrev noE (t : ByteArray) : Prop := (61 : UInt8) ∉ by_ t
theorem noE_tok {n s : ByteArray} (h : noE (n ++ tEq ++ s)) : False := h (by simp only [by_, ba_app]; simp)
theorem w_noE {s : ByteArray} (h : isW s = true) : noE s := w_no h 61 (by decide)
def stopE : List ByteArray → Prop
  | [] => True
  | t :: _ => noE t
theorem said_inj : ∀ (ts : List TraitV) (ss ss' : List ByteArray) (R R' : List ByteArray), ss.length = ts.length → ss'.length = ts.length → (∀ t ∈ ts, isW t.name = true) → (ts.map (·.name)).Nodup → stopE R → stopE R' →
    saidTok ts ss ++ R = saidTok ts ss' ++ R' → ss = ss' ∧ R = R'
  | [], [], [], R, R', _, _, _, _, _, _, h => ⟨rfl, h⟩
  | [], _ :: _, _, _, _, h, _, _, _, _, _, _ => by simp at h
  | [], _, _ :: _, _, _, _, h, _, _, _, _, _ => by simp at h
  | _ :: _, [], _, _, _, h, _, _, _, _, _, _ => by simp at h
  | _ :: _, _ :: _, [], _, _, _, h, _, _, _, _, _ => by simp at h
  | t :: ts, s :: ss, s' :: ss', R, R', h1, h2, hw, hn, hR, hR', h => by
    rw [List.map_cons, List.nodup_cons] at hn
    have htw := w_noE (hw t (List.mem_cons_self ..))
    have ih := said_inj ts ss ss' R R' (by simpa using h1) (by simpa using h2) (fun u hu => hw u (List.mem_cons_of_mem _ hu)) hn.2 hR hR'
    -- one that begins with this trait's token cannot be one of the others
    have no : ∀ (us qs : List ByteArray) (s0 : ByteArray) (U : List ByteArray), us.length = ts.length → stopE U → saidTok ts us ++ U ≠ (t.name ++ tEq ++ s0) :: qs := by
      intro us qs s0 U _ hU e
      cases hx : saidTok ts us with
      | nil =>
        rw [hx, List.nil_append] at e
        rw [e] at hU
        exact noE_tok hU
      | cons y r =>
        have hy : y ∈ saidTok ts us := by rw [hx]; exact List.mem_cons_self ..
        rw [hx, List.cons_append, List.cons.injEq] at e
        have mem : ∀ (tt : List TraitV) (vv : List ByteArray) (z : ByteArray), z ∈ saidTok tt vv → ∃ u ∈ tt, ∃ v, z = u.name ++ tEq ++ v := by
          intro tt
          induction tt with
          | nil => intro vv z hz; simp [saidTok] at hz
          | cons u tt iht =>
            intro vv z hz
            cases vv with
            | nil => simp [saidTok] at hz
            | cons v vv =>
              rw [saidTok] at hz
              split at hz
              · obtain ⟨u', h1, h2⟩ := iht vv z hz
                exact ⟨u', List.mem_cons_of_mem _ h1, h2⟩
              · rcases List.mem_cons.1 hz with rfl | hz
                · exact ⟨u, List.mem_cons_self .., v, rfl⟩
                · obtain ⟨u', h1, h2⟩ := iht vv z hz
                  exact ⟨u', List.mem_cons_of_mem _ h1, h2⟩
        obtain ⟨u, hu, v, hv⟩ := mem ts us y hy
        rw [hv] at e
        have := eqTok (w_noE (hw u (List.mem_cons_of_mem _ hu))) htw e.1
        exact hn.1 (List.mem_map.2 ⟨u, hu, this.1⟩)
    rw [saidTok, saidTok] at h
    by_cases e : (s == (⟨#[]⟩ : ByteArray)) = true
    · by_cases e' : (s' == (⟨#[]⟩ : ByteArray)) = true
      · rw [if_pos e, if_pos e'] at h
        have := ih h
        exact ⟨by rw [bytes_eq e, bytes_eq e', this.1], this.2⟩
      · rw [if_pos e, if_neg e', List.cons_append] at h
        exact absurd h (no ss _ s' R (by simpa using h1) hR)
    · by_cases e' : (s' == (⟨#[]⟩ : ByteArray)) = true
      · rw [if_neg e, if_pos e', List.cons_append] at h
        exact absurd h.symm (no ss' _ s R' (by simpa using h2) hR')
      · rw [if_neg e, if_neg e', List.cons_append, List.cons_append, List.cons.injEq] at h
        have h3 := eqTok htw htw h.1
        have := ih h.2
        exact ⟨by rw [h3.2, this.1], this.2⟩
/-- what may follow a description -/
def stopT : List ByteArray → Prop
  | [] => True
  | t :: _ => t = tClose ∨ t = tSemi
theorem stopT_E {R : List ByteArray} (h : stopT R) : stopE R := by
  cases R with
  | nil => trivial
  | cons t R => rcases h with h | h <;> (rw [h]; show (61 : UInt8) ∉ _; decide)
abbrev endT (l : List IT) : List ByteArray := if l.length = 0 then [] else [tClose]
mutual
theorem tok_inj {g : List (ByteArray × ClassV)} : ∀ (x y : IT) (R R' : List ByteArray), OkN g x → OkN g y → stopT R → stopT R' → tokT g x ++ R = tokT g y ++ R' → x = y ∧ R = R'
  | .mk cls says parts, y, R, R', hx, hy, hR, hR', h => by
    rw [tokT, tokT_eq g y] at h
    simp only [List.cons_append, List.append_assoc, List.cons.injEq] at h
    obtain ⟨hc, h⟩ := h
    have hl := hx.len
    have hl' := hy.len
    simp only [IT.cls, IT.says] at hl
    rw [← hc] at hl' h
    have stp : ∀ (l : List IT) (U : List ByteArray), stopT U → stopE (tokP g true l ++ (endT l ++ U)) := by
      intro l U hU
      cases l with
      | nil => exact stopT_E hU
      | cons p l => rw [tokP]; show (61 : UInt8) ∉ _; decide
    have h1 := said_inj (traitsOf g cls) says y.says _ _ hl hl' hx.tw hx.tn (stp parts R hR) (stp y.parts R' hR') h
    have h2 : parts = y.parts ∧ R = R' := by
      have h3 := h1.2
      cases parts with
      | nil =>
        cases hyp : y.parts with
        | nil => rw [hyp] at h3; exact ⟨rfl, by simpa [tokP] using h3⟩
        | cons q l' =>
          rw [hyp, tokP, tokP] at h3
          have h3 : R = tOpen :: (tokT g q ++ tokP g false l') ++ (endT (q :: l') ++ R') := h3
          rw [h3] at hR
          rcases hR with hR | hR <;> exact absurd hR (by decide)
      | cons p l =>
        cases hyp : y.parts with
        | nil =>
          rw [hyp, tokP, tokP] at h3
          have h3 : tOpen :: (tokT g p ++ tokP g false l) ++ (endT (p :: l) ++ R) = R' := h3
          rw [← h3] at hR'
          rcases hR' with hR' | hR' <;> exact absurd hR' (by decide)
        | cons q l' =>
          have hyq : ∀ z ∈ q :: l', OkN g z := by rw [← hyp]; exact hy.pt
          rw [hyp] at h3
          have h4 : tokP g true (p :: l) ++ tClose :: R = tokP g true (q :: l') ++ tClose :: R' := by
            exact h3
          exact tokP_inj true (p :: l) (q :: l') R R' hx.pt hyq (by simp) h4
    obtain ⟨yc, ys, yp⟩ := y
    simp only [IT.cls, IT.says, IT.parts] at hc h1 h2
    rw [hc, h1.1, h2.1]; exact ⟨rfl, h2.2⟩
theorem tokP_inj {g : List (ByteArray × ClassV)} (b : Bool) : ∀ (l l' : List IT) (R R' : List ByteArray), (∀ p ∈ l, OkN g p) → (∀ p ∈ l', OkN g p) → (b = true → l ≠ [] ∧ l' ≠ []) → tokP g b l ++ tClose :: R = tokP g b l' ++ tClose :: R' → l = l' ∧ R = R'
  | [], [], R, R', _, _, _, h => by simpa [tokP] using h
  | [], q :: l', R, R', _, _, hb, h => by
    cases b with
    | true => exact absurd rfl (hb rfl).1
    | false =>
      rw [tokP, tokP] at h
      simp only [List.nil_append, List.cons_append, List.cons.injEq] at h
      exact absurd h.1 (by decide)
  | p :: l, [], R, R', _, _, hb, h => by
    cases b with
    | true => exact absurd rfl (hb rfl).2
    | false =>
      rw [tokP, tokP] at h
      simp only [List.nil_append, List.cons_append, List.cons.injEq] at h
      exact absurd h.1 (by decide)
  | p :: l, q :: l', R, R', hl, hl', _, h => by
    rw [tokP, tokP] at h
    simp only [List.cons_append, List.append_assoc, List.cons.injEq] at h
    have stp : ∀ (l : List IT) (U : List ByteArray), stopT (tokP g false l ++ tClose :: U) := by
      intro l U
      cases l with
      | nil => exact .inl rfl
      | cons p l => rw [tokP]; exact .inr rfl
    have h1 := tok_inj p q _ _ (hl p (List.mem_cons_self ..)) (hl' q (List.mem_cons_self ..)) (stp l R) (stp l' R') h.2
    have h2 := tokP_inj false l l' R R' (fun z hz => hl z (List.mem_cons_of_mem _ hz)) (fun z hz => hl' z (List.mem_cons_of_mem _ hz)) (by simp) h1.2
    exact ⟨by rw [h1.1, h2.1], h2.2⟩
end

/-! ### The text and its tokens -/
/-- a token without a blank -/
abbrev noB (t : ByteArray) : Prop := (32 : UInt8) ∉ by_ t
theorem w_noB {s : ByteArray} (h : isW s = true) : noB s := w_no h 32 (by decide)
theorem said_noB : ∀ (ts : List TraitV) (ss : List ByteArray), (∀ t ∈ ts, isW t.name = true) → (∀ s ∈ ss, s = ⟨#[]⟩ ∨ isW s = true) → ∀ u ∈ saidTok ts ss, noB u
  | [], _, _, _ => by simp [saidTok]
  | _ :: _, [], _, _ => by simp [saidTok]
  | t :: ts, s :: ss, hw, hs => by
    intro u hu
    have ih := said_noB ts ss (fun t ht => hw t (List.mem_cons_of_mem _ ht)) (fun s h => hs s (List.mem_cons_of_mem _ h)) u
    rw [saidTok] at hu
    split at hu
    · exact ih hu
    · rcases List.mem_cons.1 hu with rfl | hu
      · have h1 := w_noB (hw t (List.mem_cons_self ..))
        have h2 : noB s := by
          rcases hs s (List.mem_cons_self ..) with h | h
          · rw [h]; show (32 : UInt8) ∉ _; decide
          · exact w_noB h
        show (32 : UInt8) ∉ by_ _
        simp only [by_, ba_app, List.mem_append, not_or]
        exact ⟨⟨h1, by decide⟩, h2⟩
      · exact ih hu
mutual
theorem tok_noB {g : List (ByteArray × ClassV)} : ∀ x : IT, OkN g x → ∀ u ∈ tokT g x, noB u
  | .mk cls says parts, h => by
    intro u hu
    rw [tokT, List.mem_append, List.mem_append, List.mem_cons] at hu
    rcases hu with (rfl | hu) | hu | hu
    · exact w_noB h.cls
    · exact said_noB _ _ h.tw h.sw u hu
    · exact tokP_noB true parts h.pt u hu
    · split at hu
      · simp at hu
      · rw [List.mem_singleton.1 hu]; show (32 : UInt8) ∉ _; decide
theorem tokP_noB {g : List (ByteArray × ClassV)} (b : Bool) : ∀ l : List IT, (∀ p ∈ l, OkN g p) → ∀ u ∈ tokP g b l, noB u
  | [], _ => by simp [tokP]
  | p :: l, h => by
    intro u hu
    rw [tokP] at hu
    rcases List.mem_cons.1 hu with hu | hu
    · rw [hu]; split <;> (show (32 : UInt8) ∉ _; decide)
    · rcases List.mem_append.1 hu with hu | hu
      · exact tok_noB p (h p (List.mem_cons_self ..)) u hu
      · exact tokP_noB false l (fun q hq => h q (List.mem_cons_of_mem _ hq)) u hu
end
theorem jn_inj : ∀ (xs ys : List ByteArray) (s t : ByteArray), (∀ u ∈ s :: xs, noB u) → (∀ u ∈ t :: ys, noB u) → by_ s ++ by_ (bl xs) = by_ t ++ by_ (bl ys) → s :: xs = t :: ys
  | [], [], s, t, _, _, h => by
    have h2 : by_ s = by_ t := by simpa [bl] using h
    rw [ba_ext h2]
  | [], u :: ys, s, t, hs, _, h => by
    exfalso
    have : (32 : UInt8) ∈ by_ s ++ by_ (bl []) := by rw [h, bl]; simp [by_]
    rw [bl] at this
    exact hs s (List.mem_cons_self ..) (by simpa [by_] using this)
  | u :: xs, [], s, t, _, ht, h => by
    exfalso
    have : (32 : UInt8) ∈ by_ t ++ by_ (bl []) := by rw [← h, bl]; simp [by_]
    rw [bl] at this
    exact ht t (List.mem_cons_self ..) (by simpa [by_] using this)
  | u :: xs, v :: ys, s, t, hs, ht, h => by
    rw [bl, bl] at h
    have e : ∀ (a : ByteArray) (l : List ByteArray), by_ (tBl ++ (a ++ bl l)) = (32 : UInt8) :: (by_ a ++ by_ (bl l)) := by
      intro a l; simp [by_]
    rw [e, e] at h
    have h1 := cut_first 32 _ _ _ _ (hs s (List.mem_cons_self ..)) (ht t (List.mem_cons_self ..)) h
    have h2 := jn_inj xs ys u v (fun w hw => hs w (List.mem_cons_of_mem _ hw)) (fun w hw => ht w (List.mem_cons_of_mem _ hw)) h1.2
    rw [ba_ext h1.1, h2]
theorem txt_inj {g : List (ByteArray × ClassV)} {x y : IT} (hx : OkN g x) (hy : OkN g y) (h : txtT g x = txtT g y) : x = y := by
  have key : ∀ z : IT, ∃ s l, tokT g z = s :: l := fun z => by
    cases h : tokT g z with
    | nil => exact absurd h (tok_ne g z)
    | cons s l => exact ⟨s, l, rfl⟩
  obtain ⟨s, l, e1⟩ := key x
  obtain ⟨t, m, e2⟩ := key y
  have h1 := tok_noB x hx
  have h2 := tok_noB y hy
  unfold txtT at h
  rw [e1] at h1 h
  rw [e2] at h2 h
  rw [jn_bl, jn_bl] at h
  have h3 := congrArg by_ h
  simp only [by_, ba_app] at h3
  have h4 := jn_inj l m s t h1 h2 h3
  have h5 : tokT g x ++ [] = tokT g y ++ [] := by rw [e1, e2, h4]
  exact (tok_inj x y [] [] hx hy trivial trivial h5).1
/-- lists of the same descriptions are sorted alike -/
theorem insAt_perm {α : Type} (lt : α → α → Bool) (P : List α) (x : α) : ∀ j, (insAt lt P x j).Perm (x :: P)
  | 0 => .refl _
  | j + 1 => by
    have h : (P.take (j + 1) ++ x :: P.drop (j + 1)).Perm (x :: P) := by
      refine List.perm_middle.trans (.cons x ?_)
      rw [List.take_append_drop]
    rw [insAt]
    split
    · split
      · exact insAt_perm lt P x j
      · exact h
    · exact h
theorem isort_perm {α : Type} (lt : α → α → Bool) : ∀ l P : List α, (isort lt P l).Perm (P ++ l)
  | [], P => by rw [isort, List.append_nil]
  | x :: l, P => by
    rw [isort]
    refine (isort_perm lt l _).trans ?_
    refine ((insAt_perm lt P x _).append_right l).trans ?_
    rw [List.cons_append]
    exact List.perm_middle.symm
theorem isort_same {g : List (ByteArray × ClassV)} {a b : List IT} (ha : ∀ x ∈ a, OkN g x) (hb : ∀ x ∈ b, OkN g x) (h : a.Perm b) : isort (ltT g) [] a = isort (ltT g) [] b := by
  have h1 := (isort_L (ltT_weak g) a [] List.Pairwise.nil).2
  have h2 := (isort_L (ltT_weak g) b [] List.Pairwise.nil).2
  have p1 := isort_perm (ltT g) a []
  have p2 := isort_perm (ltT g) b []
  rw [List.nil_append] at p1 p2
  refine List.Perm.eq_of_pairwise ?_ h1 h2 (p1.trans (h.trans p2.symm))
  intro x y hx hy hxy hyx
  have n1 := ha x (p1.subset hx)
  have n2 := hb y (p2.subset hy)
  refine txt_inj n1 n2 ?_
  unfold ltT at hxy hyx
  rw [ltS_eq] at hxy hyx
  have e1 := of_decide_eq_false hxy
  have e2 := of_decide_eq_false hyx
  exact ba_ext (List.le_antisymm (List.not_lt.1 e1) (List.not_lt.1 e2))
end Go.Proofs.Ytlfbghkcfmcnlaa
namespace Go.Proofs.Ytlfbghkcfmcnlaa
open Go.Sx Go.RowKit

mutual
def CovP : IT → IT → Prop
  | .mk cls says parts, b => cls = b.cls ∧ saysCov says b.says = true ∧ CovPL parts b.parts
def CovPL : List IT → List IT → Prop
  | [], _ => True
  | p :: l, bs => ∃ q b1 b2, bs = b1 ++ q :: b2 ∧ CovP p q ∧ CovPL l (b1 ++ b2)
end
theorem CovP_iff (a b : IT) : CovP a b ↔ a.cls = b.cls ∧ saysCov a.says b.says = true ∧ CovPL a.parts b.parts := by
  obtain ⟨_, _, _⟩ := a; rw [CovP]; rfl

/-! ### From the search -/
def restU {α : Type} : List α → Nat → List Int → List α
  | [], _, _ => []
  | b :: bs, k, used => if hasI used (k : Int) then restU bs (k + 1) used else b :: restU bs (k + 1) used
theorem hasI_snoc (used : List Int) (j i : Int) : hasI (used ++ [j]) i = (hasI used i || decide (j = i)) := by
  unfold hasI; rw [List.any_append, List.any_cons, List.any_nil, Bool.or_false]
theorem restU_far {α : Type} (used : List Int) (j : Nat) : ∀ (bs : List α) (k : Nat), j < k → restU bs k (used ++ [(j : Int)]) = restU bs k used
  | [], _, _ => rfl
  | b :: bs, k, h => by
    rw [restU, restU, hasI_snoc, decide_eq_false (by omega), Bool.or_false, restU_far used j bs (k + 1) (by omega)]
theorem restU_split {α : Type} (used : List Int) : ∀ (bs : List α) (k : Nat) (b1 : List α) (q : α) (b2 : List α), restU bs k used = b1 ++ q :: b2 →
    ∃ j, bs[j]? = some q ∧ hasI used ((k + j : Nat) : Int) = false ∧ restU bs k (used ++ [((k + j : Nat) : Int)]) = b1 ++ b2
  | [], _, b1, q, b2, h => by simp [restU] at h
  | b :: bs, k, b1, q, b2, h => by
    rw [restU] at h
    split at h
    · rename_i hk
      obtain ⟨j, h1, h2, h3⟩ := restU_split used bs (k + 1) b1 q b2 h
      refine ⟨j + 1, by simpa using h1, by rw [show k + (j + 1) = k + 1 + j by omega]; exact h2, ?_⟩
      rw [restU, hasI_snoc, hk, Bool.true_or, if_pos rfl, show k + (j + 1) = k + 1 + j by omega]; exact h3
    · rename_i hk
      have hk' : hasI used (k : Int) = false := by simpa using hk
      cases b1 with
      | nil =>
        rw [List.nil_append, List.cons.injEq] at h
        refine ⟨0, by rw [List.getElem?_cons_zero, h.1], hk', ?_⟩
        rw [Nat.add_zero, restU, hasI_snoc, decide_eq_true (by omega), Bool.or_true, if_pos rfl, restU_far used k bs (k + 1) (by omega), h.2]; rfl
      | cons c b1 =>
        rw [List.cons_append, List.cons.injEq] at h
        obtain ⟨j, h1, h2, h3⟩ := restU_split used bs (k + 1) b1 q b2 h.2
        refine ⟨j + 1, by simpa using h1, by rw [show k + (j + 1) = k + 1 + j by omega]; exact h2, ?_⟩
        rw [restU, hasI_snoc, hk', Bool.false_or, if_neg (by simp; omega), show k + (j + 1) = k + 1 + j by omega, h3, h.1]; rfl
theorem restU_pick {α : Type} (used : List Int) : ∀ (bs : List α) (k j : Nat) (q : α), bs[j]? = some q → hasI used ((k + j : Nat) : Int) = false →
    ∃ b1 b2, restU bs k used = b1 ++ q :: b2 ∧ restU bs k (used ++ [((k + j : Nat) : Int)]) = b1 ++ b2
  | [], _, _, _, h, _ => by simp at h
  | b :: bs, k, 0, q, h, hu => by
    simp only [List.getElem?_cons_zero, Option.some.injEq] at h
    rw [Nat.add_zero] at hu ⊢
    refine ⟨[], restU bs (k + 1) used, by rw [restU, if_neg (by simp [hu]), h]; rfl, ?_⟩
    rw [restU, hasI_snoc, decide_eq_true rfl, Bool.or_true, if_pos rfl, restU_far used k bs (k + 1) (by omega)]; rfl
  | b :: bs, k, j + 1, q, h, hu => by
    rw [show k + (j + 1) = k + 1 + j by omega] at hu ⊢
    obtain ⟨b1, b2, h1, h2⟩ := restU_pick used bs (k + 1) j q (by simpa using h) hu
    rw [restU, restU, hasI_snoc, decide_eq_false (show ¬ ((k + 1 + j : Nat) : Int) = (k : Int) by omega), Bool.or_false, h1, h2]
    split
    · exact ⟨b1, b2, rfl, rfl⟩
    · exact ⟨b :: b1, b2, rfl, rfl⟩
theorem tryR_iff (f : Nat → Bool) (used : List Int) : ∀ (row : List Bool) (k : Nat), tryR f row k used = true ↔ ∃ j, row[j]? = some true ∧ hasI used ((k + j : Nat) : Int) = false ∧ f (k + j) = true
  | [], k => by simp [tryR]
  | c :: row, k => by
    rw [tryR, Bool.or_eq_true, tryR_iff f used row (k + 1), seek_neg used k 0 (by omega)]
    simp only [Bool.and_eq_true, Bool.not_eq_true']
    constructor
    · rintro (⟨⟨h1, h2⟩, h3⟩ | ⟨j, h1, h2, h3⟩)
      · exact ⟨0, by simp [h2], by simpa using h1, by simpa using h3⟩
      · exact ⟨j + 1, by simpa using h1, by rw [show k + (j + 1) = k + 1 + j by omega]; exact h2, by rw [show k + (j + 1) = k + 1 + j by omega]; exact h3⟩
    · rintro ⟨j, h1, h2, h3⟩
      cases j with
      | zero => exact .inl ⟨⟨by simpa using h2, by simpa using h1⟩, by simpa using h3⟩
      | succ j =>
        rw [show k + (j + 1) = k + 1 + j by omega] at h2 h3
        exact .inr ⟨j, by simpa using h1, h2, h3⟩
mutual
theorem covI_iff : ∀ a b : ItemV, covI a b = true ↔ CovP a.pl b.pl
  | .mk cls As cs says Ap cp parts, b => by
    rw [covI_ref]
    simp only [Bool.and_eq_true, decide_eq_true_eq]
    show cls = b.cls ∧ saysCov says b.says = true ∧ asR (covRows parts b.parts) [] = true ↔ _
    rw [rows_iff parts b.parts [], ItemV.pl, CovP, pl_cls, pl_says, pl_parts, ← plL_map]
    have : restU b.parts 0 [] = b.parts := by
      have : ∀ (l : List ItemV) (k : Nat), restU l k [] = l := by
        intro l
        induction l with
        | nil => intro _; rfl
        | cons x l ih => intro k; rw [restU, ih]; rfl
      exact this _ _
    rw [this]
theorem rows_iff : ∀ (l bs : List ItemV) (used : List Int), asR (covRows l bs) used = true ↔ CovPL (plL l) (plL (restU bs 0 used))
  | [], bs, used => by rw [covRows, asR, plL, CovPL]; simp
  | p :: l, bs, used => by
    rw [covRows, asR, tryR_iff, plL, CovPL]
    constructor
    · rintro ⟨j, h1, h2, h3⟩
      rw [List.getElem?_map] at h1
      obtain ⟨q, hq, hc⟩ := Option.map_eq_some_iff.1 h1
      obtain ⟨b1, b2, e1, e2⟩ := restU_pick used bs 0 j q hq h2
      rw [rows_iff l bs, e2] at h3
      refine ⟨q.pl, plL b1, plL b2, by rw [e1, plL_map, plL_map, plL_map, List.map_append, List.map_cons], (covI_iff p q).1 hc, ?_⟩
      rw [plL_map, plL_map b1, plL_map b2, ← List.map_append, ← plL_map, ← plL_map]; exact h3
    · rintro ⟨q, b1, b2, h1, h2, h3⟩
      rw [plL_map] at h1
      obtain ⟨c1, c2, e1, e2, e3⟩ := List.map_eq_append_iff.1 h1
      obtain ⟨r, c3, f1, f2, f3⟩ := List.map_eq_cons_iff.1 e3
      subst f1
      obtain ⟨j, g1, g2, g3⟩ := restU_split used bs 0 c1 r c3 e1
      refine ⟨j, by rw [List.getElem?_map, g1, Option.map_some, (covI_iff p r).2 (by rw [f2]; exact h2)], g2, ?_⟩
      rw [rows_iff l bs, g3, plL_map (c1 ++ c3), List.map_append, e2, f3]; exact h3
end

/-! ### What is said grows -/
theorem saysCov_said : ∀ ss ts : List ByteArray, ss.length = ts.length → saysCov ss ts = true → saidN ss ≤ saidN ts ∧ (saidN ss = saidN ts → ss = ts)
  | [], [], _, _ => ⟨Int.le_refl _, fun _ => rfl⟩
  | [], _ :: _, h, _ => by simp at h
  | _ :: _, [], h, _ => by simp at h
  | s :: ss, t :: ts, h, hc => by
    rw [saysCov, Bool.and_eq_true] at hc
    have ih := saysCov_said ss ts (by simpa using h) hc.2
    have e : ∀ (u : ByteArray) (us : List ByteArray), saidN (u :: us) = (if u == (⟨#[]⟩ : ByteArray) then 0 else 1) + saidN us := fun u us => by unfold saidN; rw [List.map_cons, List.sum_cons]
    rw [e, e]
    have h1 := hc.1
    simp only [Bool.not_eq_true', Bool.and_eq_false_iff, Bool.not_eq_false'] at h1
    by_cases hs : (s == (⟨#[]⟩ : ByteArray)) = true
    · rw [if_pos hs]
      by_cases ht : (t == (⟨#[]⟩ : ByteArray)) = true
      · rw [if_pos ht]
        refine ⟨by omega, fun h => ?_⟩
        rw [bytes_eq hs, bytes_eq ht, ih.2 (by omega)]
      · rw [if_neg ht]
        exact ⟨by omega, fun h => by omega⟩
    · rw [if_neg hs]
      have hst : s = t := by
        rcases h1 with h1 | h1
        · exact absurd h1 hs
        · exact bytes_eq h1
      subst hst
      rw [if_neg hs]
      exact ⟨by omega, fun h => by rw [ih.2 (by omega)]⟩
theorem saysCov_refl : ∀ ss : List ByteArray, saysCov ss ss = true
  | [] => rfl
  | s :: ss => by
    rw [saysCov, saysCov_refl ss, show (s == s) = true by rw [bytes_beq]; simp]; simp
theorem saysCov_trans : ∀ ss ts us : List ByteArray, ss.length = ts.length → ts.length = us.length → saysCov ss ts = true → saysCov ts us = true → saysCov ss us = true
  | [], _, _, _, _, _, _ => rfl
  | _ :: _, [], _, h, _, _, _ => by simp at h
  | _ :: _, _ :: _, [], _, h, _, _ => by simp at h
  | s :: ss, t :: ts, u :: us, h, h', h1, h2 => by
    rw [saysCov, Bool.and_eq_true] at h1 h2 ⊢
    refine ⟨?_, saysCov_trans ss ts us (by simpa using h) (by simpa using h') h1.2 h2.2⟩
    have a := h1.1
    have b := h2.1
    simp only [Bool.not_eq_true', Bool.and_eq_false_iff, Bool.not_eq_false'] at a b ⊢
    rcases a with a | a
    · exact .inl a
    · rw [bytes_eq a]; exact b
theorem cntL_perm {a b : List IT} (h : a.Perm b) : cntL a = cntL b := by
  induction h with
  | nil => rfl
  | cons x _ ih => rw [cntL, cntL, ih]
  | swap x y l => rw [cntL, cntL, cntL, cntL]; omega
  | trans _ _ h1 h2 => rw [h1, h2]
theorem sdL_app : ∀ a b : List IT, sdL (a ++ b) = sdL a + sdL b
  | [], b => by rw [List.nil_append, sdL]; omega
  | x :: a, b => by rw [List.cons_append, sdL, sdL, sdL_app a b]; omega
theorem OkN.lens {g : List (ByteArray × ClassV)} {a b : IT} (ha : OkN g a) (hb : OkN g b) (h : a.cls = b.cls) : a.says.length = b.says.length := by rw [ha.len, hb.len, h]
theorem saidN_nn (l : List ByteArray) : 0 ≤ saidN l := by
  unfold saidN
  induction l with
  | nil => simp
  | cons s l ih => rw [List.map_cons, List.sum_cons]; split <;> omega
mutual
theorem sd_nn : ∀ x : IT, 0 ≤ sdT x
  | .mk _ says parts => by rw [sdT]; have := saidN_nn says; have := sdL_nn parts; omega
theorem sdL_nn : ∀ l : List IT, 0 ≤ sdL l
  | [] => by rw [sdL]; omega
  | p :: l => by rw [sdL]; have := sd_nn p; have := sdL_nn l; omega
end
mutual
theorem cov_grow {g : List (ByteArray × ClassV)} : ∀ a b : IT, OkN g a → OkN g b → CovP a b → (cntT a ≤ cntT b ∧ sdT a ≤ sdT b) ∧ (cntT a = cntT b → sdT a = sdT b → sortT g a = sortT g b)
  | .mk cls says parts, b, ha, hb, h => by
    rw [CovP] at h
    obtain ⟨h1, h2, h3⟩ := h
    have hs := saysCov_said says b.says (ha.lens hb h1) h2
    have hp := covL_grow parts b.parts ha.pt hb.pt h3
    rw [cntT, sdT, cntT_eq b, sdT_eq b]
    refine ⟨by omega, fun h4 h5 => ?_⟩
    have e1 : saidN says = saidN b.says := by omega
    have e2 := hp.2 (by omega) (by omega)
    have e3 := isort_same (g := g) (fun z hz => by obtain ⟨q, hq, rfl⟩ := List.mem_map.1 hz; exact sort_N (ha.pt q hq)) (fun z hz => by obtain ⟨q, hq, rfl⟩ := List.mem_map.1 hz; exact sort_N (hb.pt q hq)) e2
    rw [sortT_eq, sortT_eq g b]
    show IT.mk cls says (isort (ltT g) [] (parts.map (sortT g))) = _
    rw [h1, hs.2 e1, e3]
theorem covL_grow {g : List (ByteArray × ClassV)} : ∀ l bs : List IT, (∀ p ∈ l, OkN g p) → (∀ p ∈ bs, OkN g p) → CovPL l bs → (cntL l ≤ cntL bs ∧ sdL l ≤ sdL bs) ∧ (cntL l = cntL bs → sdL l = sdL bs → (l.map (sortT g)).Perm (bs.map (sortT g)))
  | [], bs, _, _, _ => by
    have h1 := cntL_pos bs
    have h2 : 0 ≤ sdL bs := sdL_nn bs
    refine ⟨⟨by rw [cntL]; omega, by rw [sdL]; exact h2⟩, fun h3 _ => ?_⟩
    rw [cntL] at h3
    cases bs with
    | nil => exact .refl _
    | cons p bs => rw [cntL] at h3; have := cnt_pos p; have := cntL_pos bs; omega
  | p :: l, bs, hl, hb, h => by
    rw [CovPL] at h
    obtain ⟨q, b1, b2, e, h1, h2⟩ := h
    subst e
    have i1 := cov_grow p q (hl p (List.mem_cons_self ..)) (hb q (by simp)) h1
    have i2 := covL_grow l (b1 ++ b2) (fun z hz => hl z (List.mem_cons_of_mem _ hz)) (fun z hz => hb z (by
      rcases List.mem_append.1 hz with hz | hz
      · exact List.mem_append_left _ hz
      · exact List.mem_append_right _ (List.mem_cons_of_mem _ hz))) h2
    have c1 : cntL (b1 ++ q :: b2) = cntT q + cntL (b1 ++ b2) := by rw [cntL_append, cntL_append, cntL]; omega
    have c2 : sdL (b1 ++ q :: b2) = sdT q + sdL (b1 ++ b2) := by rw [sdL_app, sdL_app, sdL]; omega
    rw [cntL, sdL, c1, c2]
    refine ⟨by omega, fun h3 h4 => ?_⟩
    have e1 := i1.2 (by omega) (by omega)
    have e2 := i2.2 (by omega) (by omega)
    rw [List.map_cons, List.map_append, List.map_cons, e1]
    refine (List.Perm.cons _ e2).trans ?_
    rw [List.map_append]
    exact List.perm_middle.symm
end

/-! ### The order of descriptions -/
mutual
theorem cov_refl : ∀ a : IT, CovP a a
  | .mk cls says parts => by
    rw [CovP]; exact ⟨rfl, saysCov_refl says, covL_refl parts⟩
theorem covL_refl : ∀ l : List IT, CovPL l l
  | [] => by rw [CovPL]; trivial
  | p :: l => by rw [CovPL]; exact ⟨p, [], l, rfl, cov_refl p, covL_refl l⟩
end
theorem covL_perm : ∀ (l bs bs' : List IT), CovPL l bs → bs.Perm bs' → CovPL l bs'
  | [], _, _, _, _ => by rw [CovPL]; trivial
  | p :: l, bs, bs', h, hp => by
    rw [CovPL] at h ⊢
    obtain ⟨q, b1, b2, e, h1, h2⟩ := h
    subst e
    obtain ⟨c1, c2, e⟩ := List.append_of_mem (hp.subset (show q ∈ b1 ++ q :: b2 by simp))
    refine ⟨q, c1, c2, e, h1, covL_perm l _ _ h2 ?_⟩
    subst e
    exact (List.perm_cons q).1 (List.perm_middle.symm.trans (hp.trans List.perm_middle))
theorem covL_cons {p q : IT} {l bs rest : List IT} (hp : bs.Perm (q :: rest)) (h1 : CovP p q) (h2 : CovPL l rest) : CovPL (p :: l) bs := by
  refine covL_perm _ _ _ ?_ hp.symm
  rw [CovPL]; exact ⟨q, [], rest, rfl, h1, h2⟩
theorem covL_pull : ∀ (m1 : List IT) (q : IT) (m2 n : List IT), CovPL (m1 ++ q :: m2) n → ∃ r rest, n.Perm (r :: rest) ∧ CovP q r ∧ CovPL (m1 ++ m2) rest
  | [], q, m2, n, h => by
    rw [List.nil_append, CovPL] at h
    obtain ⟨r, b1, b2, e, h1, h2⟩ := h
    exact ⟨r, b1 ++ b2, by rw [e]; exact List.perm_middle, h1, h2⟩
  | x :: m1, q, m2, n, h => by
    rw [List.cons_append, CovPL] at h
    obtain ⟨y, b1, b2, e, h1, h2⟩ := h
    obtain ⟨r, rest, p1, h3, h4⟩ := covL_pull m1 q m2 _ h2
    refine ⟨r, y :: rest, ?_, h3, covL_cons (.refl _) h1 h4⟩
    rw [e]
    exact List.perm_middle.trans ((List.Perm.cons y p1).trans (List.Perm.swap r y rest))
mutual
theorem cov_trans {g : List (ByteArray × ClassV)} : ∀ a b c : IT, OkN g a → OkN g b → OkN g c → CovP a b → CovP b c → CovP a c
  | .mk cls says parts, b, c, ha, hb, hc, h, h' => by
    rw [CovP] at h ⊢
    rw [CovP_iff] at h'
    exact ⟨h.1.trans h'.1, saysCov_trans _ _ _ (ha.lens hb h.1) (hb.lens hc h'.1) h.2.1 h'.2.1, covL_trans parts b.parts c.parts ha.pt hb.pt hc.pt h.2.2 h'.2.2⟩
theorem covL_trans {g : List (ByteArray × ClassV)} : ∀ l m n : List IT, (∀ p ∈ l, OkN g p) → (∀ p ∈ m, OkN g p) → (∀ p ∈ n, OkN g p) → CovPL l m → CovPL m n → CovPL l n
  | [], _, _, _, _, _, _, _ => by rw [CovPL]; trivial
  | p :: l, m, n, hl, hm, hn, h, h' => by
    rw [CovPL] at h
    obtain ⟨q, m1, m2, e, h1, h2⟩ := h
    subst e
    obtain ⟨r, rest, p1, h3, h4⟩ := covL_pull m1 q m2 n h'
    have hr : ∀ z ∈ r :: rest, OkN g z := fun z hz => hn z (p1.symm.subset hz)
    refine covL_cons p1 (cov_trans p q r (hl p (List.mem_cons_self ..)) (hm q (by simp)) (hr r (List.mem_cons_self ..)) h1 h3) ?_
    exact covL_trans l (m1 ++ m2) rest (fun z hz => hl z (List.mem_cons_of_mem _ hz)) (fun z hz => hm z (by
      rcases List.mem_append.1 hz with hz | hz
      · exact List.mem_append_left _ hz
      · exact List.mem_append_right _ (List.mem_cons_of_mem _ hz))) (fun z hz => hr z (List.mem_cons_of_mem _ hz)) h2 h4
end
mutual
theorem sort_cov (g : List (ByteArray × ClassV)) : ∀ a b : IT, sortT g a = sortT g b → CovP a b
  | .mk cls says parts, b, h => by
    rw [sortT_eq, sortT_eq g b, IT.mk.injEq] at h
    rw [CovP]
    refine ⟨h.1, by have h2 : says = b.says := h.2.1; rw [h2]; exact saysCov_refl _, ?_⟩
    have h3 : isort (ltT g) [] (parts.map (sortT g)) = isort (ltT g) [] (b.parts.map (sortT g)) := h.2.2
    have p1 := isort_perm (ltT g) (parts.map (sortT g)) []
    have p2 := isort_perm (ltT g) (b.parts.map (sortT g)) []
    rw [List.nil_append] at p1 p2
    exact sortL_cov g parts b.parts (p1.symm.trans (h3 ▸ p2))
theorem sortL_cov (g : List (ByteArray × ClassV)) : ∀ l bs : List IT, (l.map (sortT g)).Perm (bs.map (sortT g)) → CovPL l bs
  | [], _, _ => by rw [CovPL]; trivial
  | p :: l, bs, h => by
    obtain ⟨q, hq, he⟩ := List.mem_map.1 (h.subset (show sortT g p ∈ (p :: l).map (sortT g) by simp))
    obtain ⟨b1, b2, e⟩ := List.append_of_mem hq
    subst e
    rw [CovPL]
    refine ⟨q, b1, b2, rfl, sort_cov g p q he.symm, sortL_cov g l (b1 ++ b2) ?_⟩
    rw [List.map_cons, List.map_append, List.map_cons, he] at h
    rw [List.map_append]
    exact (List.perm_cons _).1 (h.trans List.perm_middle)
end
/-- two descriptions cover each other if and only if their sorted forms have the same text -/
theorem cov_both {g : List (ByteArray × ClassV)} {a b : ItemV} (ha : OkN g a.pl) (hb : OkN g b.pl) : (txtT g (sortT g a.pl) == txtT g (sortT g b.pl)) = (covI a b && covI b a) := by
  rw [Bool.eq_iff_iff, Bool.and_eq_true, covI_iff, covI_iff]
  constructor
  · intro h
    have e := txt_inj (sort_N ha) (sort_N hb) (bytes_eq h)
    exact ⟨sort_cov g _ _ e, sort_cov g _ _ e.symm⟩
  · rintro ⟨h1, h2⟩
    have g1 := cov_grow _ _ ha hb h1
    have g2 := cov_grow _ _ hb ha h2
    rw [g1.2 (by omega) (by omega), bytes_beq]; exact decide_eq_true rfl
end Go.Proofs.Ytlfbghkcfmcnlaa
namespace Go.Proofs.Ytlfbghkcfmcnlaa
open Go.Sx Go.RowKit
set_option maxRecDepth 20000

end Go.Proofs.Ytlfbghkcfmcnlaa
namespace Go.Proofs.Ytlfbghkcfmcnlaa
open Go.Sx Go.RowKit
set_option maxRecDepth 20000
theorem k_SeekText (l : List ByteArray) (A : Option Addr) (c : Nat) (s : ByteArray) (w : World) (hl : Rd w 1 enStr A l) : Calls Try.prog 88 #[.slice A l.length c, .string s] w (fun e w' => e = .returned (.int .i64 (firstS s l 0)) ∧ Grow w w') := by
  have hlen := hl.len
  refine enter_pure (args := [.slice A l.length c, .string s]) [sl (fun b => b < w.heap.size) 1 enStr A l] Try.func88 rfl (by rw [Try.ntmps88]; simp) (fun g hg => by simp at hg; subst hg; exact ⟨hl, fun _ h => h⟩) ?_
  refine cj_seq ?_
  refine cj_regionG (gj_step (y_assign rfl) rfl rfl rfl (gj_nil ?_))
  refine ej_th (cj_seq (cj_seq ?_))
  refine cj_regionG (gj_step (y_assign rfl) rfl rfl rfl (gj_nil ?_))
  refine ej_th (cj_block ?_)
  refine cj_lpic (X := Nat) [(0, _), (1, _)] (fun k => k ≤ l.length ∧ firstS s (l.drop k) k = firstS s l 0) (fun k => [(5, .int .i64 k)]) (fun k => l.length - k) 0 (⟨Nat.zero_le _, rfl⟩) ⟨rfl, rfl, rfl, trivial⟩ ?_
  rintro k ⟨hk, hsk⟩
  dsimp only [List.cons_append, List.nil_append]
  refine cj_seq (cj_seq ?_)
  refine cj_regionG (gj_step (y_move rfl) rfl rfl rfl (gj_step (y_move rfl) rfl rfl rfl (gj_step (y_lenA Try.underlying23 rfl) rfl rfl rfl (gj_step (y_lss rfl rfl) rfl rfl rfl (gj_nil ?_)))))
  refine ej_th ?_
  refine cj_cond rfl (fun h9 => ?_) (fun h9 => ?_)
  · have h9b := h9
    try simp only [sxb] at h9
    obtain ⟨x, hx⟩ : ∃ x, l[k]? = some x := ⟨_, List.getElem?_eq_getElem (by omega)⟩
    rw [firstS_drop s l k x hx] at hsk
    refine cj_skip (ej_th (cj_seq (cj_block (cj_seq ?_))))
    refine cj_regionG (gj_step (y_move rfl) rfl rfl rfl (gj_step (y_move rfl) rfl rfl rfl (gj_step (y_ixR (reads_sl) Try.underlying23 Try.sizeOf9 rfl rfl (⟨by omega, by omega⟩)) rfl rfl rfl (gj_step (y_ld0 (reads_sl) Try.isAgg9 rfl (hx) rfl) rfl rfl rfl (gj_step (y_move rfl) rfl rfl rfl (gj_step (y_eqlS rfl rfl) rfl rfl rfl (gj_nil ?_)))))))
    refine ej_th ?_
    refine cj_cond rfl (fun h17 => ?_) (fun h17 => ?_)
    · have h17b := h17
      try simp only [sxb] at h17
      refine cj_seq ?_
      refine cj_regionG (gj_step (y_move rfl) rfl rfl rfl (gj_step (y_assign rfl) rfl rfl rfl (gj_nil ?_)))
      refine ej_th (cj_ret (ej_blk_ret (ej_then_ret (ej_then_ret (ej_blk_ret (ej_then_ret ?_))))))
      refine ej_ret1 rfl Try.results88 rfl (fun w' hp => ⟨?_, hp.below⟩)
      rw [← hsk, if_pos (bytes_eq h17)]
    · have h17b := h17
      try simp only [sxb] at h17
      refine cj_skip (ej_blk (ej_th ?_))
      refine cj_regionG (gj_step (y_move rfl) rfl rfl rfl (gj_step (y_add rfl rfl (by omega)) rfl rfl rfl (gj_step (y_assign rfl) rfl rfl rfl (gj_nil ?_))))
      exact ej_nx (k + 1) (by omega) ⟨by omega, by rw [← hsk, if_neg (bytes_ne h17)]⟩ ⟨rfl, rfl, rfl, trivial⟩
  · have h9b := h9
    try simp only [sxb] at h9
    refine cj_exit (ej_then_exit (ej_then_exit (ej_blk_hit (ej_th (cj_seq ?_)))))
    refine cj_regionG (gj_step (y_assign rfl) rfl rfl rfl (gj_nil ?_))
    refine ej_th (cj_ret ?_)
    refine ej_ret1 rfl Try.results88 rfl (fun w' hp => ⟨?_, hp.below⟩)
    rw [← hsk, List.drop_of_length_le (by omega)]; rfl

theorem k_different (l : List ByteArray) (A : Option Addr) (c : Nat) (w : World) (hl : Rd w 1 enStr A l) (hsm : smS l) : Calls Try.prog 85 #[.slice A l.length c] w (fun e w' => e = .returned (.bool (wordsB l)) ∧ Grow w w') := by
  have hlen := hl.len
  refine enter_pure (args := [.slice A l.length c]) [sl (fun b => b < w.heap.size) 1 enStr A l] Try.func85 rfl (by rw [Try.ntmps85]; simp) (fun g hg => by simp at hg; subst hg; exact ⟨hl, fun _ h => h⟩) ?_
  refine cj_seq ?_
  refine cj_regionG (gj_step (y_assign rfl) rfl rfl rfl (gj_nil ?_))
  refine ej_th (cj_seq (cj_seq ?_))
  refine cj_regionG (gj_step (y_assign rfl) rfl rfl rfl (gj_nil ?_))
  refine ej_th (cj_block ?_)
  refine cj_lpic (X := Nat) [(0, _)] (fun k => k ≤ l.length ∧ diffG l (l.drop k) k = wordsB l) (fun k => [(3, .int .i64 k)]) (fun k => l.length - k) 0 (⟨Nat.zero_le _, diff_words l⟩) ⟨rfl, rfl, trivial⟩ ?_
  rintro k ⟨hk, hsk⟩
  dsimp only [List.cons_append, List.nil_append]
  refine cj_seq (cj_seq ?_)
  refine cj_regionG (gj_step (y_move rfl) rfl rfl rfl (gj_step (y_move rfl) rfl rfl rfl (gj_step (y_lenA Try.underlying23 rfl) rfl rfl rfl (gj_step (y_lss rfl rfl) rfl rfl rfl (gj_nil ?_)))))
  refine ej_th ?_
  refine cj_cond rfl (fun h7 => ?_) (fun h7 => ?_)
  · have h7b := h7
    try simp only [sxb] at h7
    obtain ⟨x, hx⟩ : ∃ x, l[k]? = some x := ⟨_, List.getElem?_eq_getElem (by omega)⟩
    rw [diffG_drop l l k x hx] at hsk
    refine cj_skip (ej_th (cj_seq (cj_block (cj_seq ?_))))
    refine cj_regionG ?_
    refine gj_step (y_move rfl) rfl rfl rfl (gj_step (y_move rfl) rfl rfl rfl (gj_step (y_ixR (reads_sl) Try.underlying23 Try.sizeOf9 rfl rfl (⟨by omega, by omega⟩)) rfl rfl rfl (gj_step (y_ld0 (reads_sl) Try.isAgg9 rfl (hx) rfl) rfl rfl rfl (?_))))
    refine gj_step (y_call Try.call41 rfl (fun w hp => k_rIsWord _ w (hsm x (List.mem_of_getElem? hx)))) rfl rfl rfl ?_
    refine gj_step (y_not rfl) rfl rfl rfl (gj_step (y_move rfl) rfl rfl rfl (?_))
    refine gj_g 8 16 24 rfl rfl rfl rfl (fun hg16 => gj_yes rfl rfl rfl (y_move rfl) rfl rfl (gj_yes rfl rfl rfl (y_move rfl) rfl rfl (gj_yes rfl rfl rfl (y_move rfl) rfl rfl (gj_yes rfl rfl rfl (y_ixR (reads_sl) Try.underlying23 Try.sizeOf9 rfl rfl (⟨by omega, by omega⟩)) rfl rfl (gj_yes rfl rfl rfl (y_ld0 (reads_sl) Try.isAgg9 rfl (hx) rfl) rfl rfl (gj_yes rfl rfl rfl (y_call Try.call88 rfl (fun w hp => k_SeekText l A c x w hp.rd)) rfl rfl (gj_yes rfl rfl rfl (y_move rfl) rfl rfl (gj_yes rfl rfl rfl (y_neq rfl rfl) rfl rfl (gj_nil rfl))))))))) ?_
    refine gj_step (y_or rfl rfl rfl) rfl rfl rfl (?_)
    refine gj_nil ?_
    refine ej_th ?_
    refine cj_cond rfl (fun h25 => ?_) (fun h25 => ?_)
    · have h25b := h25
      try simp only [sxb] at h25
      refine cj_seq ?_
      refine cj_regionG (gj_step (y_assign rfl) rfl rfl rfl (gj_nil ?_))
      refine ej_th (cj_ret (ej_blk_ret (ej_then_ret (ej_then_ret (ej_blk_ret (ej_then_ret ?_))))))
      refine ej_ret1 rfl Try.results85 rfl (fun w' hp => ⟨?_, hp.below⟩)
      rw [← hsk, not_t ((diff_V _ _ _).symm.trans h25b)]; rfl
    · have h25b := h25
      try simp only [sxb] at h25
      refine cj_skip (ej_blk (ej_th ?_))
      refine cj_regionG (gj_step (y_move rfl) rfl rfl rfl (gj_step (y_add rfl rfl (by omega)) rfl rfl rfl (gj_step (y_assign rfl) rfl rfl rfl (gj_nil ?_))))
      exact ej_nx (k + 1) (by omega) ⟨by omega, by rw [← hsk, not_f ((diff_V _ _ _).symm.trans h25b), Bool.true_and]⟩ ⟨rfl, rfl, trivial⟩
  · have h7b := h7
    try simp only [sxb] at h7
    refine cj_exit (ej_then_exit (ej_then_exit (ej_blk_hit (ej_th (cj_seq ?_)))))
    refine cj_regionG (gj_step (y_assign rfl) rfl rfl rfl (gj_nil ?_))
    refine ej_th (cj_ret ?_)
    refine ej_ret1 rfl Try.results85 rfl (fun w' hp => ⟨?_, hp.below⟩)
    rw [← hsk, List.drop_of_length_le (by omega)]; rfl

theorem k_names (l : List ClassV) (A : Option Addr) (c : Nat) (w : World) (hl : Rd w 4 encCl A l) (h12 : l.length ≤ 12) : Calls Try.prog 86 #[.slice A l.length c] w (fun e w' => ∃ A c, e = .returned (.slice A (namesC l).length c) ∧ Grow w w' ∧ Res w w' 1 enStr A (namesC l)) := by
  have hlen := hl.len
  refine enter_pure (args := [.slice A l.length c]) [sl (fun b => b < w.heap.size) 4 encCl A l] Try.func86 rfl (by rw [Try.ntmps86]; simp) (fun g hg => by simp at hg; subst hg; exact ⟨hl, fun _ h => h⟩) ?_
  refine cj_seq ?_
  refine cj_regionG (gj_step (y_assign rfl) rfl rfl rfl (gj_nil ?_))
  refine ej_th (cj_seq ?_)
  refine cj_regionG (gj_step (y_assign rfl) rfl rfl rfl (gj_nil ?_))
  refine ej_th (cj_seq (cj_seq ?_))
  refine cj_regionG (gj_step (y_assign rfl) rfl rfl rfl (gj_nil ?_))
  refine ej_th (cj_block ?_)
  refine cj_ownNil 9 1 enStr ?_
  refine cj_lpi (X := Nat × Option Addr × Nat × List ByteArray) [(0, _), (2, _)] (fun ⟨k, A1, c1, xs⟩ => k ≤ l.length ∧ xs = namesC (l.take k)) (fun ⟨k, A1, c1, xs⟩ => [(3, .slice A1 xs.length c1), (4, .int .i64 k)]) (fun ⟨k, A1, c1, xs⟩ => [ow 9 1 enStr A1 c1 xs]) (fun ⟨k, A1, c1, xs⟩ => [sl (fun b => b < w.heap.size) 4 encCl A l]) (fun ⟨k, A1, c1, xs⟩ => l.length - k) (0, none, 0, []) (⟨Nat.zero_le _, rfl⟩) ⟨rfl, rfl, rfl, rfl, trivial⟩ ?_
  rintro ⟨k, A1, c1, xs⟩ ⟨hk, hxs⟩
  dsimp only [List.cons_append, List.nil_append]
  refine cj_seq (cj_seq ?_)
  refine cj_regionG (gj_step (y_move rfl) rfl rfl rfl (gj_step (y_move rfl) rfl rfl rfl (gj_step (y_lenA Try.underlying22 rfl) rfl rfl rfl (gj_step (y_lss rfl rfl) rfl rfl rfl (gj_nil ?_)))))
  refine ej_th ?_
  refine cj_cond rfl (fun h8 => ?_) (fun h8 => ?_)
  · have h8b := h8
    try simp only [sxb] at h8
    obtain ⟨x, hx⟩ : ∃ x, l[k]? = some x := ⟨_, List.getElem?_eq_getElem (by omega)⟩
    have htk : l.take (k + 1) = l.take k ++ [x] := by rw [List.take_add_one, hx]; rfl
    have hxl : xs.length = k := by rw [hxs]; simp [namesC]; omega
    refine cj_skip (ej_th (cj_seq (cj_block (cj_region ?_))))
    refine oj_step (y_move rfl) rfl rfl rfl ?_
    refine oj_step (y_move rfl) rfl rfl rfl ?_
    refine oj_step (y_move rfl) rfl rfl rfl ?_
    refine oj_step (y_ixR (reads_sl) Try.underlying22 Try.sizeOf114 rfl rfl (⟨by omega, by omega⟩)) rfl rfl rfl ?_
    refine oj_step (y_faE fa114_0 rfl) rfl rfl rfl ?_
    refine oj_step (y_ld1 (reads_sl) Try.isAgg9 rfl (hx) rfl) rfl rfl rfl ?_
    refine oj_buildSlice (cs := [.string x.name]) [.string ⟨#[]⟩] Try.underlying23 Try.sizeOf9 Try.zeroValue9 rfl rfl (by kernel_rfl) (by kernel_rfl) rfl (fun b17 => ?_)
    refine oj_append  el23 (fun _ => rfl) enStr_one rfl rfl rfl (reads_lit [x.name] (fun _ => rfl) rfl) (by unfold maxLen; simp only [List.length_cons, List.length_nil]; omega) (by simp only [List.length_cons, List.length_nil]; omega) rfl (fun A18 c18 => ?_)
    refine oj_step (y_assign rfl) rfl rfl rfl ?_
    refine oj_nil ?_
    refine ej_blk (ej_th ?_)
    refine cj_regionG (gj_step (y_move rfl) rfl rfl rfl (gj_step (y_add rfl rfl (by omega)) rfl rfl rfl (gj_step (y_assign rfl) rfl rfl rfl (gj_nil ?_))))
    exact ej_nx (k + 1, A18, c18, xs ++ [x.name]) (by simp only; omega) ⟨by first | omega | (simp only; omega), by rw [hxs, htk]; simp [namesC]⟩ ⟨rfl, rfl, rfl, rfl, trivial⟩
  · have h8b := h8
    try simp only [sxb] at h8
    refine cj_exit (ej_then_exit (ej_then_exit (ej_blk_hit (ej_th (cj_seq ?_)))))
    refine cj_regionG (gj_step (y_move rfl) rfl rfl rfl (gj_step (y_assign rfl) rfl rfl rfl (gj_nil ?_)))
    refine ej_th (cj_ret ?_)
    have hxe : xs = namesC l := by rw [hxs, List.take_of_length_le (by omega)]
    have hxl : (namesC l).length = l.length := by simp [namesC]
    exact ej_ret1 rfl Try.results86 rfl (fun w' hp => ⟨A1, c1, by rw [hxe], hp.below, by rw [← hxe]; exact hp.res (fun _ => rfl) (by rw [hxe]; unfold maxLen; omega)⟩)

theorem k_traits (cc : ClassV) (w : World) (hc : GoodC w cc) (h8 : cc.traits.length ≤ 8) : Calls Try.prog 87 #[evC cc] w (fun e w' => ∃ A c, e = .returned (.slice A (cc.traits.map (fun t : TraitV => t.name)).length c) ∧ Grow w w' ∧ Res w w' 1 enStr A (cc.traits.map (fun t : TraitV => t.name))) := by
  have hlen := hc.rt.len
  refine enter_pure (args := [evC cc]) [sl (fun b => b < w.heap.size) 3 encTr cc.At cc.traits] Try.func87 rfl (by rw [Try.ntmps87]; simp) (fun g hg => by simp at hg; subst hg; exact ⟨hc.rt, fun _ h => h⟩) ?_
  refine cj_seq (cj_region ?_)
  refine oj_box rfl rfl rfl (fun b1 => ?_)
  refine oj_step (y_assign rfl) rfl rfl rfl ?_
  refine oj_nil ?_
  refine ej_th (cj_seq ?_)
  refine cj_regionG (gj_step (y_assign rfl) rfl rfl rfl (gj_nil ?_))
  refine ej_th (cj_seq (cj_seq ?_))
  refine cj_regionG (gj_step (y_assign rfl) rfl rfl rfl (gj_nil ?_))
  refine ej_th (cj_block ?_)
  refine cj_ownNil 9 1 enStr ?_
  refine cj_lpi (X := Nat × Option Addr × Nat × List ByteArray) [(1, _), (2, _)] (fun ⟨k, A1, c1, xs⟩ => k ≤ cc.traits.length ∧ xs = (cc.traits.take k).map (·.name)) (fun ⟨k, A1, c1, xs⟩ => [(3, .slice A1 xs.length c1), (4, .int .i64 k)]) (fun ⟨k, A1, c1, xs⟩ => [ow 9 1 enStr A1 c1 xs, ownB b1 (cellsB 114 [.string cc.name, .slice cc.At cc.traits.length cc.ct, .slice cc.Ap cc.parts.length cc.cp, .int .i64 cc.most])]) (fun ⟨k, A1, c1, xs⟩ => [sl (fun b => b < w.heap.size) 3 encTr cc.At cc.traits]) (fun ⟨k, A1, c1, xs⟩ => cc.traits.length - k) (0, none, 0, []) (⟨Nat.zero_le _, rfl⟩) ⟨rfl, rfl, rfl, rfl, trivial⟩ ?_
  rintro ⟨k, A1, c1, xs⟩ ⟨hk, hxs⟩
  dsimp only [List.cons_append, List.nil_append]
  refine cj_seq (cj_seq ?_)
  refine cj_regionG (gj_step (y_move rfl) rfl rfl rfl (gj_step (y_fa fa114_1 rfl) rfl rfl rfl (gj_step (y_load1 Try.isAgg112 rfl rfl) rfl rfl rfl (gj_step (y_lenA Try.underlying112 rfl) rfl rfl rfl (gj_step (y_lss rfl rfl) rfl rfl rfl (gj_nil ?_))))))
  refine ej_th ?_
  refine cj_cond rfl (fun h9 => ?_) (fun h9 => ?_)
  · have h9b := h9
    try simp only [sxb] at h9
    obtain ⟨x, hx⟩ : ∃ x, cc.traits[k]? = some x := ⟨_, List.getElem?_eq_getElem (by omega)⟩
    have htk : cc.traits.take (k + 1) = cc.traits.take k ++ [x] := by rw [List.take_add_one, hx]; rfl
    have hxl : xs.length = k := by rw [hxs]; simp; omega
    refine cj_skip (ej_th (cj_seq (cj_block (cj_region ?_))))
    refine oj_step (y_move rfl) rfl rfl rfl ?_
    refine oj_step (y_fa fa114_1 rfl) rfl rfl rfl ?_
    refine oj_step (y_load1 Try.isAgg112 rfl rfl) rfl rfl rfl ?_
    refine oj_step (y_move rfl) rfl rfl rfl ?_
    refine oj_step (y_ixR (reads_sl) Try.underlying112 Try.sizeOf116 rfl rfl (⟨by omega, by omega⟩)) rfl rfl rfl ?_
    refine oj_step (y_faE fa116_0 rfl) rfl rfl rfl ?_
    refine oj_step (y_ld1 (reads_sl) Try.isAgg9 rfl (hx) rfl) rfl rfl rfl ?_
    refine oj_buildSlice (cs := [.string x.name]) [.string ⟨#[]⟩] Try.underlying23 Try.sizeOf9 Try.zeroValue9 rfl rfl (by kernel_rfl) (by kernel_rfl) rfl (fun b19 => ?_)
    refine oj_append  el23 (fun _ => rfl) enStr_one rfl rfl rfl (reads_lit [x.name] (fun _ => rfl) rfl) (by unfold maxLen; simp only [List.length_cons, List.length_nil]; omega) (by simp only [List.length_cons, List.length_nil]; omega) rfl (fun A20 c20 => ?_)
    refine oj_step (y_assign rfl) rfl rfl rfl ?_
    refine oj_nil ?_
    refine ej_blk (ej_th ?_)
    refine cj_regionG (gj_step (y_move rfl) rfl rfl rfl (gj_step (y_add rfl rfl (by omega)) rfl rfl rfl (gj_step (y_assign rfl) rfl rfl rfl (gj_nil ?_))))
    exact ej_nx (k + 1, A20, c20, xs ++ [x.name]) (by simp only; omega) ⟨by first | omega | (simp only; omega), by rw [hxs, htk]; simp⟩ ⟨rfl, rfl, rfl, rfl, trivial⟩
  · have h9b := h9
    try simp only [sxb] at h9
    refine cj_exit (ej_then_exit (ej_then_exit (ej_blk_hit (ej_th (cj_seq ?_)))))
    refine cj_regionG (gj_step (y_move rfl) rfl rfl rfl (gj_step (y_assign rfl) rfl rfl rfl (gj_nil ?_)))
    refine ej_th (cj_ret ?_)
    have hxe : xs = cc.traits.map (fun t : TraitV => t.name) := by rw [hxs, List.take_of_length_le (by omega)]
    have hxl : (cc.traits.map (fun t : TraitV => t.name)).length = cc.traits.length := by simp
    exact ej_ret1 rfl Try.results87 rfl (fun w' hp => ⟨A1, c1, by rw [hxe], hp.below, by rw [← hxe]; exact hp.res (fun _ => rfl) (by rw [hxe]; unfold maxLen; omega)⟩)

set_option maxHeartbeats 1000000 in
theorem k_rCheckG (l : List ClassV) (A : Option Addr) (c : Nat) (w : World) (hl : Rd w 4 encCl A l) (hgc : ∀ c ∈ l, GoodC w c) : Calls Try.prog 43 #[.slice A l.length c] w (fun e w' => e = .returned (.int .i64 (gramE l)) ∧ Grow w w') := by
  have hlen := hl.len
  have hns : smS (namesC l) := fun s hs => by unfold namesC at hs; obtain ⟨q, hq, rfl⟩ := List.mem_map.1 hs; exact (hgc q hq).nm
  refine enter_pure (args := [.slice A l.length c]) [sl (fun b => b < w.heap.size) 4 encCl A l] Try.func43 rfl (by rw [Try.ntmps43]; simp) (fun g hg => by simp at hg; subst hg; exact ⟨hl, fun _ h => h⟩) ?_
  refine cj_seq ?_
  refine cj_regionG (gj_step (y_assign rfl) rfl rfl rfl (gj_nil ?_))
  refine ej_th (cj_seq (cj_region ?_))
  refine oj_step (y_move rfl) rfl rfl rfl ?_
  refine oj_step (y_lenA Try.underlying22 rfl) rfl rfl rfl ?_
  refine oj_step (y_call Try.call34 rfl (fun w hp => k_From _ _ _ w)) rfl rfl rfl ?_
  refine oj_step (y_move rfl) rfl rfl rfl ?_
  apply oj_gW (b := true) [(0, _), (2, _), (9, _), (10, _), (11, _), (12, _)] 3 12 15 ⟨rfl, rfl, rfl, rfl, rfl, rfl, trivial⟩ rfl rfl rfl rfl
  · intro hg12
    refine oj_yesE rfl rfl rfl hg12 ?_
    refine oj_step (y_move rfl) rfl rfl rfl ?_
    refine oj_yesE rfl rfl rfl hg12 ?_
    refine oj_callS (fun A c => .slice A (namesC l).length c) 1 enStr (namesC l) Try.call86 rfl (fun w hp => k_names l A c w hp.rd (by rw [Bool.and_eq_true, decide_eq_true_eq, decide_eq_true_eq] at hg12; omega)) rfl (fun A14 c14 fp14 hfp14 => ?_)
    refine oj_yesE rfl rfl rfl hg12 ?_
    refine oj_step (y_call Try.call85 rfl (fun w hp => k_different (namesC l) A14 c14 w hp.rd hns)) rfl rfl rfl ?_
    exact oj_nil (ej_gW ⟨rfl, rfl, rfl, rfl, rfl, rfl, rfl, trivial⟩)
  refine oj_step (y_and rfl rfl rfl) rfl rfl rfl ?_
  refine oj_step (y_assign rfl) rfl rfl rfl ?_
  refine oj_nil ?_
  refine ej_th (cj_seq (cj_seq ?_))
  refine cj_regionG (gj_step (y_assign rfl) rfl rfl rfl (gj_nil ?_))
  refine ej_th (cj_block ?_)
  refine cj_lpi (X := Nat × Bool) [(0, _), (2, _)] (fun ⟨k, ok⟩ => k ≤ l.length ∧ (ok = true → l.length ≤ 12) ∧ (ok && (l.drop k).all (classOk (namesC l))) = gramOk l) (fun ⟨k, ok⟩ => [(3, .bool ok), (4, .int .i64 k)]) (fun ⟨k, ok⟩ => ([] : List Fact)) (fun ⟨k, ok⟩ => [sl (fun b => b < w.heap.size) 4 encCl A l]) (fun ⟨k, ok⟩ => l.length - k) (0, (decide (1 ≤ (l.length : Int)) && decide ((l.length : Int) ≤ 12)) && wordsB (namesC l)) (⟨Nat.zero_le _, fun h => by simp only [Bool.and_eq_true, decide_eq_true_eq] at h; omega, by rw [gramOk, Bool.and_assoc]; rfl⟩) ⟨rfl, rfl, rfl, rfl, trivial⟩ ?_
  rintro ⟨k, ok⟩ ⟨hk, hl12, hsk⟩
  dsimp only [List.cons_append, List.nil_append]
  refine cj_seq (cj_seq ?_)
  refine cj_regionG (gj_step (y_move rfl) rfl rfl rfl (gj_step (y_move rfl) rfl rfl rfl (gj_g 4 18 22 rfl rfl rfl rfl (fun hg18 => gj_yes rfl rfl rfl (y_move rfl) rfl rfl (gj_yes rfl rfl rfl (y_move rfl) rfl rfl (gj_yes rfl rfl rfl (y_lenA Try.underlying22 rfl) rfl rfl (gj_yes rfl rfl rfl (y_lss rfl rfl) rfl rfl (gj_nil rfl))))) (gj_step (y_and rfl rfl rfl) rfl rfl rfl (gj_nil ?_)))))
  refine ej_th ?_
  refine cj_cond rfl (fun h23 => ?_) (fun h23 => ?_)
  · have h23b := h23
    try simp only [sxb] at h23
    rw [Bool.and_eq_true, decide_eq_true_eq] at h23b
    have hok := h23b.1
    have h12 := hl12 hok
    obtain ⟨cc, hx⟩ : ∃ cc, l[k]? = some cc := ⟨_, List.getElem?_eq_getElem (by omega)⟩
    rw [all_drop (classOk (namesC l)) l k cc hx] at hsk
    have hg1 := hgc cc (List.mem_of_getElem? hx)
    have hl1 := hg1.rt.len
    have hl2 := hg1.rp.len
    have hts : smS (cc.traits.map (fun t : TraitV => t.name)) := fun s hs => by obtain ⟨q, hq, rfl⟩ := List.mem_map.1 hs; exact (hg1.tr q hq).nm
    refine cj_rd hg1.rt (fun _ h => h) ?_
    refine cj_rd hg1.rp (fun _ h => h) ?_
    refine cj_skip (ej_th (cj_seq (cj_block (cj_seq (cj_region ?_)))))
    refine oj_step (y_move rfl) rfl rfl rfl ?_
    refine oj_step (y_move rfl) rfl rfl rfl ?_
    refine oj_step (y_ixR (reads_sl) Try.underlying22 Try.sizeOf114 rfl rfl (⟨by omega, by omega⟩)) rfl rfl rfl ?_
    refine oj_step (y_ldW (reads_sl) Try.isAgg114 Try.sizeOf114 rfl (hx) (fun _ => rfl)) rfl rfl rfl ?_
    refine oj_alloc Try.zeroValue114 rfl rfl (fun b5 => ?_)
    refine oj_store rfl rfl rfl rfl Try.sizeOf114 rfl ?_
    refine oj_nil ?_
    refine ej_th (cj_seq (cj_region ?_))
    refine oj_step (y_fa fa114_1 rfl) rfl rfl rfl ?_
    refine oj_step (y_load1 Try.isAgg112 rfl rfl) rfl rfl rfl ?_
    refine oj_step (y_lenA Try.underlying112 rfl) rfl rfl rfl ?_
    refine oj_step (y_leq rfl rfl) rfl rfl rfl ?_
    refine oj_step (y_move rfl) rfl rfl rfl ?_
    apply oj_gW (b := true) [(3, _), (4, _), (0, _), (2, _), (17, _), (18, _), (22, _), (23, _), (26, _), (27, _), (28, _), (29, _), (5, _), (30, _), (31, _), (32, _), (33, _), (34, _)] 3 34 37 ⟨rfl, rfl, rfl, rfl, rfl, rfl, rfl, rfl, rfl, rfl, rfl, rfl, rfl, rfl, rfl, rfl, rfl, rfl, trivial⟩ rfl rfl rfl rfl
    · intro hg34
      refine oj_yesE rfl rfl rfl hg34 ?_
      refine oj_step (y_loadN Try.isAgg114 Try.sizeOf114 rfl) rfl rfl rfl ?_
      refine oj_yesE rfl rfl rfl hg34 ?_
      refine oj_callS (fun A c => .slice A (cc.traits.map (fun t : TraitV => t.name)).length c) 1 enStr (cc.traits.map (fun t : TraitV => t.name)) Try.call87 rfl (fun w hp => k_traits cc w (hg1.mono hp.below) (by rw [decide_eq_true_eq] at hg34; omega)) rfl (fun A36 c36 fp36 hfp36 => ?_)
      refine oj_yesE rfl rfl rfl hg34 ?_
      refine oj_step (y_call Try.call85 rfl (fun w hp => k_different (cc.traits.map (fun t : TraitV => t.name)) A36 c36 w hp.rd hts)) rfl rfl rfl ?_
      exact oj_nil (ej_gW ⟨rfl, rfl, rfl, rfl, rfl, rfl, rfl, rfl, rfl, rfl, rfl, rfl, rfl, rfl, rfl, rfl, rfl, rfl, rfl, trivial⟩)
    refine oj_step (y_and rfl rfl rfl) rfl rfl rfl ?_
    refine oj_step (y_move rfl) rfl rfl rfl ?_
    refine oj_gj 27 (gj_g 4 39 43 rfl rfl rfl rfl (fun hg39 => gj_yes rfl rfl rfl (y_fa fa114_2 rfl) rfl rfl (gj_yes rfl rfl rfl (y_load1 Try.isAgg23 rfl rfl) rfl rfl (gj_yes rfl rfl rfl (y_lenA Try.underlying23 rfl) rfl rfl (gj_yes rfl rfl rfl (y_leq rfl rfl) rfl rfl (gj_nil rfl))))) (gj_step (y_and rfl rfl rfl) rfl rfl rfl (gj_step (y_move rfl) rfl rfl rfl (gj_g 3 45 48 rfl rfl rfl rfl (fun hg45 => gj_yes rfl rfl rfl (y_fa fa114_2 rfl) rfl rfl (gj_yes rfl rfl rfl (y_load1 Try.isAgg23 rfl rfl) rfl rfl (gj_yes rfl rfl rfl (y_call Try.call85 rfl (fun w hp => k_different cc.parts cc.Ap cc.cp w hp.rd hg1.sm)) rfl rfl (gj_nil rfl)))) (gj_step (y_and rfl rfl rfl) rfl rfl rfl (gj_step (y_move rfl) rfl rfl rfl (gj_g 3 50 53 rfl rfl rfl rfl (fun hg50 => gj_yes rfl rfl rfl (y_fa fa114_3 rfl) rfl rfl (gj_yes rfl rfl rfl (y_load1 Try.isAgg3 rfl rfl) rfl rfl (gj_yes rfl rfl rfl (y_call Try.call34 rfl (fun w hp => k_From _ _ _ w)) rfl rfl (gj_nil rfl)))) (gj_step (y_and rfl rfl rfl) rfl rfl rfl (gj_step (y_move rfl) rfl rfl rfl (gj_g 9 55 64 rfl rfl rfl rfl (fun hg55 => gj_yes rfl rfl rfl (y_fa fa114_3 rfl) rfl rfl (gj_yes rfl rfl rfl (y_load1 Try.isAgg3 rfl rfl) rfl rfl (gj_yes rfl rfl rfl (y_eql rfl rfl) rfl rfl (gj_yes rfl rfl rfl (y_move rfl) rfl rfl (gj_g 4 59 63 rfl rfl rfl rfl (fun hg59 => gj_yes rfl rfl rfl (y_fa fa114_2 rfl) rfl rfl (gj_yes rfl rfl rfl (y_load1 Try.isAgg23 rfl rfl) rfl rfl (gj_yes rfl rfl rfl (y_lenA Try.underlying23 rfl) rfl rfl (gj_yes rfl rfl rfl (y_gtr rfl rfl) rfl rfl (gj_nil rfl))))) (gj_yes rfl rfl rfl (y_or rfl rfl rfl) rfl rfl (gj_nil rfl))))))) (gj_step (y_and rfl rfl rfl) rfl rfl rfl (gj_step (y_assign rfl) rfl rfl rfl (gj_nil ?_)))))))))))))
    refine oj_nil ?_
    refine ej_th (cj_seq (cj_seq ?_))
    refine cj_regionG (gj_step (y_assign rfl) rfl rfl rfl (gj_nil ?_))
    refine ej_th (cj_block ?_)
    refine cj_lpic (X := Nat × Bool) [(4, _), (0, _), (2, _), (5, _)] (fun ⟨j, ok2⟩ => j ≤ cc.traits.length ∧ (ok2 && (cc.traits.drop j).all traitOk) = (cls1R cc && cc.traits.all traitOk)) (fun ⟨j, ok2⟩ => [(3, .bool ok2), (6, .int .i64 j)]) (fun ⟨j, ok2⟩ => cc.traits.length - j) (0, cls1R cc) (⟨Nat.zero_le _, rfl⟩) ⟨rfl, rfl, rfl, rfl, rfl, rfl, trivial⟩ ?_
    rintro ⟨j, ok2⟩ ⟨hj, hsj⟩
    dsimp only [List.cons_append, List.nil_append]
    refine cj_seq (cj_seq ?_)
    refine cj_regionG (gj_step (y_move rfl) rfl rfl rfl (gj_step (y_move rfl) rfl rfl rfl (gj_g 5 67 72 rfl rfl rfl rfl (fun hg67 => gj_yes rfl rfl rfl (y_move rfl) rfl rfl (gj_yes rfl rfl rfl (y_fa fa114_1 rfl) rfl rfl (gj_yes rfl rfl rfl (y_load1 Try.isAgg112 rfl rfl) rfl rfl (gj_yes rfl rfl rfl (y_lenA Try.underlying112 rfl) rfl rfl (gj_yes rfl rfl rfl (y_lss rfl rfl) rfl rfl (gj_nil rfl)))))) (gj_step (y_and rfl rfl rfl) rfl rfl rfl (gj_nil ?_)))))
    refine ej_th ?_
    refine cj_cond rfl (fun h73 => ?_) (fun h73 => ?_)
    · have h73b := h73
      try simp only [sxb] at h73
      rw [Bool.and_eq_true, decide_eq_true_eq] at h73b
      obtain ⟨t, hy⟩ : ∃ t, cc.traits[j]? = some t := ⟨_, List.getElem?_eq_getElem (by omega)⟩
      rw [all_drop traitOk cc.traits j t hy, h73b.1, Bool.true_and, traitOk_V] at hsj
      have hg2 := hg1.tr t (List.mem_of_getElem? hy)
      have hl3 := hg2.rd.len
      refine cj_rd hg2.rd (fun _ h => h) ?_
      refine cj_skip (ej_th (cj_seq (cj_block (cj_seq ?_))))
      refine cj_regionG (gj_step (y_fa fa114_1 rfl) rfl rfl rfl (gj_step (y_load1 Try.isAgg112 rfl rfl) rfl rfl rfl (gj_step (y_move rfl) rfl rfl rfl (gj_step (y_ixR (reads_sl) Try.underlying112 Try.sizeOf116 rfl rfl (⟨by omega, by omega⟩)) rfl rfl rfl (gj_step (y_faE fa116_1 rfl) rfl rfl rfl (gj_step (y_ld1 (reads_sl) Try.isAgg23 rfl (hy) rfl) rfl rfl rfl (gj_step (y_assign rfl) rfl rfl rfl (gj_nil ?_))))))))
      refine ej_th ?_
      refine cj_regionG ?_
      refine gj_step (y_move rfl) rfl rfl rfl (gj_step (y_lenA Try.underlying23 rfl) rfl rfl rfl (?_))
      refine gj_step (y_call Try.call34 rfl (fun w hp => k_From _ _ _ w)) rfl rfl rfl ?_
      refine gj_step (y_move rfl) rfl rfl rfl (?_)
      refine gj_g 2 85 87 rfl rfl rfl rfl (fun hg85 => gj_yes rfl rfl rfl (y_move rfl) rfl rfl (gj_yes rfl rfl rfl (y_call Try.call85 rfl (fun w hp => k_different t.vals t.A t.c w hp.rd hg2.sm)) rfl rfl (gj_nil rfl))) ?_
      refine gj_step (y_and rfl rfl rfl) rfl rfl rfl (gj_step (y_assign rfl) rfl rfl rfl (?_))
      refine gj_nil ?_
      refine ej_blk (ej_th ?_)
      refine cj_regionG (gj_step (y_move rfl) rfl rfl rfl (gj_step (y_add rfl rfl (by omega)) rfl rfl rfl (gj_step (y_assign rfl) rfl rfl rfl (gj_nil ?_))))
      exact ej_nx (j + 1, (decide (1 ≤ (t.vals.length : Int)) && decide ((t.vals.length : Int) ≤ 8)) && wordsB t.vals) (by simp only; omega) ⟨by first | omega | (simp only; omega), hsj⟩ ⟨rfl, rfl, rfl, rfl, rfl, rfl, trivial⟩
    · have h73b := h73
      try simp only [sxb] at h73
      have hfj := ok_end h73b hj (fun h => by rw [List.drop_of_length_le h]; rfl) hsj
      refine cj_exit (ej_then_exit (ej_then_exit (ej_blk_hit (ej_th (cj_seq ?_)))))
      refine cj_regionG (gj_step (y_assign rfl) rfl rfl rfl (gj_nil ?_))
      refine ej_th (cj_block ?_)
      refine cj_lpic (X := Nat × Bool) [(4, _), (0, _), (2, _), (5, _)] (fun ⟨i, ok3⟩ => i ≤ cc.parts.length ∧ (ok3 && (cc.parts.drop i).all (hasW (namesC l))) = (ok2 && cc.parts.all (hasW (namesC l)))) (fun ⟨i, ok3⟩ => [(3, .bool ok3), (8, .int .i64 i)]) (fun ⟨i, ok3⟩ => cc.parts.length - i) (0, ok2) (⟨Nat.zero_le _, rfl⟩) ⟨rfl, rfl, rfl, rfl, rfl, rfl, trivial⟩ ?_
      rintro ⟨i, ok3⟩ ⟨hi, hsi⟩
      dsimp only [List.cons_append, List.nil_append]
      refine cj_seq (cj_seq ?_)
      refine cj_regionG (gj_step (y_move rfl) rfl rfl rfl (gj_step (y_move rfl) rfl rfl rfl (gj_g 5 90 95 rfl rfl rfl rfl (fun hg90 => gj_yes rfl rfl rfl (y_move rfl) rfl rfl (gj_yes rfl rfl rfl (y_fa fa114_2 rfl) rfl rfl (gj_yes rfl rfl rfl (y_load1 Try.isAgg23 rfl rfl) rfl rfl (gj_yes rfl rfl rfl (y_lenA Try.underlying23 rfl) rfl rfl (gj_yes rfl rfl rfl (y_lss rfl rfl) rfl rfl (gj_nil rfl)))))) (gj_step (y_and rfl rfl rfl) rfl rfl rfl (gj_nil ?_)))))
      refine ej_th ?_
      refine cj_cond rfl (fun h96 => ?_) (fun h96 => ?_)
      · have h96b := h96
        try simp only [sxb] at h96
        rw [Bool.and_eq_true, decide_eq_true_eq] at h96b
        obtain ⟨q, hz⟩ : ∃ q, cc.parts[i]? = some q := ⟨_, List.getElem?_eq_getElem (by omega)⟩
        rw [all_drop (hasW (namesC l)) cc.parts i q hz, h96b.1, Bool.true_and] at hsi
        refine cj_skip (ej_th (cj_seq (cj_block ?_)))
        refine cj_plan 10 (by kernel_rfl) (by kernel_rfl) ?_
        refine pl_y 0 rfl (y_move rfl) rfl rfl rfl rfl (by kernel_rfl) ?_
        refine pl_y 2 rfl (y_fa fa114_2 rfl) rfl rfl rfl rfl (by kernel_rfl) ?_
        refine pl_y 3 rfl (y_load1 Try.isAgg23 rfl rfl) rfl rfl rfl rfl (by kernel_rfl) ?_
        refine pl_y 4 rfl (y_move rfl) rfl rfl rfl rfl (by kernel_rfl) ?_
        refine pl_y 5 rfl (y_ixR (reads_sl) Try.underlying23 Try.sizeOf9 rfl rfl (⟨by omega, by omega⟩)) rfl rfl rfl rfl (by kernel_rfl) ?_
        refine pl_y 6 rfl (y_ld0 (reads_sl) Try.isAgg9 rfl (hz) rfl) rfl rfl rfl rfl (by kernel_rfl) ?_
        refine pl_w1 1 (by kernel_rfl) rfl rfl (pl_fire rfl rfl rfl (by kernel_rfl) ?_)
        refine oj_callS (fun A c => .slice A (namesC l).length c) 1 enStr (namesC l) Try.call86 rfl (fun w hp => k_names l A c w hp.rd h12) rfl (fun A100 c100 fp100 hfp100 => ?_)
        refine oj_nil ?_
        refine ej_pl (lt_y (y_ld0 (reads_sl) Try.isAgg9 rfl (hz) rfl) rfl (lt_y (y_ixR (reads_sl) Try.underlying23 Try.sizeOf9 rfl rfl (⟨by omega, by omega⟩)) rfl (lt_y (y_move rfl) rfl (lt_y (y_load1 Try.isAgg23 rfl rfl) rfl (lt_y (y_fa fa114_2 rfl) rfl (lt_w (by kernel_rfl) (lt_nil))))))) ?_
        refine pl_y 7 rfl (y_call Try.call88 rfl (fun w hp => k_SeekText (namesC l) A100 c100 q w hp.rd)) rfl rfl rfl rfl (by kernel_rfl) ?_
        refine pl_y 8 rfl (y_geq rfl rfl) rfl rfl rfl rfl (by kernel_rfl) ?_
        refine pl_y 9 rfl (y_assign rfl) rfl rfl rfl rfl (by kernel_rfl) ?_
        refine pl_end (by kernel_rfl) ?_
        refine ej_blk (ej_th ?_)
        refine cj_regionG (gj_step (y_move rfl) rfl rfl rfl (gj_step (y_add rfl rfl (by omega)) rfl rfl rfl (gj_step (y_assign rfl) rfl rfl rfl (gj_nil ?_))))
        exact ej_nx (i + 1, decide (0 ≤ firstS q (namesC l) 0)) (by simp only; omega) ⟨by first | omega | (simp only; omega), by rw [firstS_has]; exact hsi⟩ ⟨rfl, rfl, rfl, rfl, rfl, rfl, trivial⟩
      · have h96b := h96
        try simp only [sxb] at h96
        have hfi := ok_end h96b hi (fun h => by rw [List.drop_of_length_le h]; rfl) hsi
        have hcr := class_ref (ns := namesC l) (by simpa [namesC] using h12) cc
        refine cj_exit (ej_then_exit (ej_then_exit (ej_blk_hit (ej_blk (ej_th ?_)))))
        refine cj_regionG (gj_step (y_move rfl) rfl rfl rfl (gj_step (y_add rfl rfl (by omega)) rfl rfl rfl (gj_step (y_assign rfl) rfl rfl rfl (gj_nil ?_))))
        exact ej_nx (k + 1, ok3) (by simp only; omega) ⟨by first | omega | (simp only; omega), fun _ => h12, by rw [← hsk, hfi, hfj, hcr, hok, Bool.true_and]⟩ ⟨rfl, rfl, rfl, rfl, trivial⟩
  · have h23b := h23
    try simp only [sxb] at h23
    have hfin := ok_end h23b hk (fun h => by rw [List.drop_of_length_le h]; rfl) hsk
    refine cj_exit (ej_then_exit (ej_then_exit (ej_blk_hit (ej_th (cj_seq (cj_seq ?_))))))
    refine cj_regionG (gj_step (y_move rfl) rfl rfl rfl (gj_step (y_not rfl) rfl rfl rfl (gj_nil ?_)))
    refine ej_th ?_
    refine cj_cond rfl (fun h109 => ?_) (fun h109 => ?_)
    · have h109b := h109
      try simp only [sxb] at h109
      refine cj_seq ?_
      refine cj_regionG (gj_step (y_assign rfl) rfl rfl rfl (gj_nil ?_))
      refine ej_th (cj_ret (ej_then_ret ?_))
      refine ej_ret1 rfl Try.results43 rfl (fun w' hp => ⟨?_, hp.below⟩)
      rw [gramE, ← hfin, not_t h109b]; rfl
    · have h109b := h109
      try simp only [sxb] at h109
      refine cj_skip (ej_th (cj_seq ?_))
      refine cj_regionG (gj_step (y_assign rfl) rfl rfl rfl (gj_nil ?_))
      refine ej_th (cj_ret ?_)
      refine ej_ret1 rfl Try.results43 rfl (fun w' hp => ⟨?_, hp.below⟩)
      rw [gramE, ← hfin, not_f h109b]; rfl

theorem k_class (l : List ClassV) (A : Option Addr) (c : Nat) (x : ItemV) (w : World) (hl : Rd w 4 encCl A l) (hgo : gramOk l = true) : Calls Try.prog 115 #[.slice A l.length c, evI x] w (fun e w' => e = .returned (.tuple #[evC ((clsOf l x.cls).getD zC), .bool (clsOf l x.cls).isSome]) ∧ Grow w w') := by
  have h12 := gram_12 hgo
  have hlen := hl.len
  have hfc := firstS_cls x.cls l 0
  refine enter_pure (args := [.slice A l.length c, evI x]) [sl (fun b => b < w.heap.size) 4 encCl A l] Try.func115 rfl (by rw [Try.ntmps115]; simp) (fun g hg => by simp at hg; subst hg; exact ⟨hl, fun _ h => h⟩) ?_
  refine cj_seq (cj_region ?_)
  refine oj_box rfl rfl rfl (fun b3 => ?_)
  refine oj_alloc Try.zeroValue114 rfl rfl (fun b4 => ?_)
  refine oj_step (y_assign rfl) rfl rfl rfl ?_
  refine oj_nil ?_
  refine ej_th (cj_seq ?_)
  refine cj_plan 6 (by kernel_rfl) (by kernel_rfl) ?_
  refine pl_y 0 rfl (y_move rfl) rfl rfl rfl rfl (by kernel_rfl) ?_
  refine pl_y 2 rfl (y_fa0 fa26_0 rfl) rfl rfl rfl rfl (by kernel_rfl) ?_
  refine pl_y 3 rfl (y_load1 Try.isAgg9 rfl rfl) rfl rfl rfl rfl (by kernel_rfl) ?_
  refine pl_w1 1 (by kernel_rfl) rfl rfl (pl_fire rfl rfl rfl (by kernel_rfl) ?_)
  refine oj_callS (fun A c => .slice A (namesC l).length c) 1 enStr (namesC l) Try.call86 rfl (fun w hp => k_names l A c w hp.rd h12) rfl (fun A8 c8 fp8 hfp8 => ?_)
  refine oj_nil ?_
  refine ej_pl (lt_y (y_load1 Try.isAgg9 rfl rfl) rfl (lt_y (y_fa0 fa26_0 rfl) rfl (lt_w (by kernel_rfl) (lt_nil)))) ?_
  refine pl_y 4 rfl (y_call Try.call88 rfl (fun w hp => k_SeekText (namesC l) A8 c8 x.cls w hp.rd)) rfl rfl rfl rfl (by kernel_rfl) ?_
  refine pl_y 5 rfl (y_assign rfl) rfl rfl rfl rfl (by kernel_rfl) ?_
  refine pl_end (by kernel_rfl) ?_
  refine ej_th (cj_seq (cj_seq ?_))
  refine cj_regionG (gj_step (y_move rfl) rfl rfl rfl (gj_step (y_lss rfl rfl) rfl rfl rfl (gj_nil ?_)))
  refine ej_th ?_
  refine cj_cond rfl (fun h13 => ?_) (fun h13 => ?_)
  · have h13b := h13
    try simp only [sxb] at h13
    have hno : clsOf l x.cls = none := by
      cases h : clsOf l x.cls with
      | none => rfl
      | some cc => rw [h] at hfc; obtain ⟨k, _, he⟩ := hfc; omega
    refine cj_seq (cj_region ?_)
    refine oj_step (y_build st114 rfl rfl) rfl rfl rfl ?_
    refine oj_store rfl rfl rfl rfl Try.sizeOf114 rfl ?_
    refine oj_step (y_assign rfl) rfl rfl rfl ?_
    refine oj_nil ?_
    refine ej_th (cj_ret (ej_then_ret ?_))
    exact ej_retC2 rfl Try.results115 rfl (y_loadN Try.isAgg114 Try.sizeOf114 rfl) rfl (fun w' hp => ⟨by rw [hno]; rfl, hp.below⟩)
  · have h13b := h13
    try simp only [sxb] at h13
    obtain ⟨cc, hcc⟩ : ∃ cc, clsOf l x.cls = some cc := by
      cases h : clsOf l x.cls with
      | none => rw [h] at hfc; simp only at hfc; omega
      | some cc => exact ⟨cc, rfl⟩
    rw [hcc] at hfc
    obtain ⟨k, hx, he⟩ := hfc
    have hkl := (List.getElem?_eq_some_iff.1 hx).1
    refine cj_skip (ej_th (cj_seq (cj_region ?_)))
    refine oj_step (y_move rfl) rfl rfl rfl ?_
    refine oj_step (y_move rfl) rfl rfl rfl ?_
    refine oj_step (y_ixR (reads_sl) Try.underlying22 Try.sizeOf114 rfl rfl (⟨by omega, by omega⟩)) rfl rfl rfl ?_
    refine oj_step (y_ldW (reads_sl) Try.isAgg114 Try.sizeOf114 rfl ((show l[(firstS x.cls (namesC l) 0).toNat]? = some cc by rw [he]; simpa using hx)) (fun _ => rfl)) rfl rfl rfl ?_
    refine oj_store rfl rfl rfl rfl Try.sizeOf114 rfl ?_
    refine oj_step (y_assign rfl) rfl rfl rfl ?_
    refine oj_nil ?_
    refine ej_th (cj_ret ?_)
    exact ej_retC2 rfl Try.results115 rfl (y_loadN Try.isAgg114 Try.sizeOf114 rfl) rfl (fun w' hp => ⟨by rw [hcc]; rfl, hp.below⟩)

set_option maxHeartbeats 2000000 in
theorem k_val1 (l : List ClassV) (A : Option Addr) (c : Nat) (x : ItemV) (deep : Int) (w : World) (hl : Rd w 4 encCl A l) (hgc : ∀ c ∈ l, GoodC w c) (hgo : gramOk l = true) (hx : GoodI w x) (hd : 0 ≤ deep ∧ deep ≤ 100) (ih : ∀ p ∈ x.parts, ∀ (w1 : World) (dp : Int), Grow w w1 → 0 ≤ dp ∧ dp ≤ 100 → Calls Try.prog 89 #[.slice A l.length c, evI p, .int .i64 dp] w1 (fun e w' => e = .returned (.bool (valI l p dp)) ∧ Grow w1 w')) : Calls Try.prog 89 #[.slice A l.length c, evI x, .int .i64 deep] w (fun e w' => e = .returned (.bool (valI l x deep)) ∧ Grow w w') := by
  have hl1 := hx.rs.len
  have hl2 := hx.rp.len
  refine enter_pure (args := [.slice A l.length c, evI x, .int .i64 deep]) [sl (fun b => b < w.heap.size) 4 encCl A l] Try.func89 rfl (by rw [Try.ntmps89]; simp) (fun g hg => by simp at hg; subst hg; exact ⟨hl, fun _ h => h⟩) ?_
  refine cj_seq (cj_region ?_)
  refine oj_box rfl rfl rfl (fun b4 => ?_)
  refine oj_step (y_assign rfl) rfl rfl rfl ?_
  refine oj_nil ?_
  refine ej_th (cj_seq (cj_region ?_))
  refine oj_step (y_move rfl) rfl rfl rfl ?_
  refine oj_step (y_loadN Try.isAgg26 Try.sizeOf26 rfl) rfl rfl rfl ?_
  refine oj_step (y_call Try.call115 rfl (fun w hp => k_class l A c x w hp.rd hgo)) rfl rfl rfl ?_
  refine oj_step (y_move rfl) rfl rfl rfl ?_
  refine oj_step (y_extract rfl rfl) rfl rfl rfl ?_
  refine oj_step (y_extract rfl rfl) rfl rfl rfl ?_
  refine oj_alloc Try.zeroValue114 rfl rfl (fun b7 => ?_)
  refine oj_store rfl rfl rfl rfl Try.sizeOf114 rfl ?_
  refine oj_step (y_assign rfl) rfl rfl rfl ?_
  refine oj_nil ?_
  refine ej_th (cj_seq (cj_seq ?_))
  refine cj_regionG (gj_step (y_move rfl) rfl rfl rfl (gj_step (y_not rfl) rfl rfl rfl (gj_step (y_move rfl) rfl rfl rfl (gj_g 2 20 22 rfl rfl rfl rfl (fun hg20 => gj_yes rfl rfl rfl (y_move rfl) rfl rfl (gj_yes rfl rfl rfl (y_gtr rfl rfl) rfl rfl (gj_nil rfl))) (gj_step (y_or rfl rfl rfl) rfl rfl rfl (gj_step (y_move rfl) rfl rfl rfl (gj_g 7 24 31 rfl rfl rfl rfl (fun hg24 => gj_yes rfl rfl rfl (y_fa fa26_1 rfl) rfl rfl (gj_yes rfl rfl rfl (y_load1 Try.isAgg23 rfl rfl) rfl rfl (gj_yes rfl rfl rfl (y_lenA Try.underlying23 rfl) rfl rfl (gj_yes rfl rfl rfl (y_fa fa114_1 rfl) rfl rfl (gj_yes rfl rfl rfl (y_load1 Try.isAgg112 rfl rfl) rfl rfl (gj_yes rfl rfl rfl (y_lenA Try.underlying112 rfl) rfl rfl (gj_yes rfl rfl rfl (y_neq rfl rfl) rfl rfl (gj_nil rfl)))))))) (gj_step (y_or rfl rfl rfl) rfl rfl rfl (gj_step (y_move rfl) rfl rfl rfl (gj_g 6 33 39 rfl rfl rfl rfl (fun hg33 => gj_yes rfl rfl rfl (y_fa fa26_2 rfl) rfl rfl (gj_yes rfl rfl rfl (y_load1 Try.isAgg24 rfl rfl) rfl rfl (gj_yes rfl rfl rfl (y_lenA Try.underlying24 rfl) rfl rfl (gj_yes rfl rfl rfl (y_fa fa114_3 rfl) rfl rfl (gj_yes rfl rfl rfl (y_load1 Try.isAgg3 rfl rfl) rfl rfl (gj_yes rfl rfl rfl (y_gtr rfl rfl) rfl rfl (gj_nil rfl))))))) (gj_step (y_or rfl rfl rfl) rfl rfl rfl (gj_nil ?_))))))))))))
  refine ej_th ?_
  refine cj_cond rfl (fun h40 => ?_) (fun h40 => ?_)
  · have h40b := h40
    try simp only [sxb] at h40
    have hno := val_none h40b
    refine cj_seq ?_
    refine cj_regionG (gj_step (y_assign rfl) rfl rfl rfl (gj_nil ?_))
    refine ej_th (cj_ret (ej_then_ret ?_))
    refine ej_ret1 rfl Try.results89 rfl (fun w' hp => ⟨?_, hp.below⟩)
    rw [hno]
  · have h40b := h40
    try simp only [sxb] at h40
    obtain ⟨cc, hcc, hcm, hd3, hsl, hve⟩ := val_some h40b
    rw [hcc]
    dsimp only [Option.getD_some]
    have hg1 := hgc cc hcm
    have hl3 := hg1.rt.len
    have hl4 := hg1.rp.len
    refine cj_rd hx.rs (fun _ h => h) ?_
    refine cj_rd hx.rp (fun _ h => h) ?_
    refine cj_rd hg1.rt (fun _ h => h) ?_
    refine cj_rd hg1.rp (fun _ h => h) ?_
    refine cj_skip (ej_th (cj_seq (cj_seq ?_)))
    refine cj_regionG (gj_step (y_assign rfl) rfl rfl rfl (gj_nil ?_))
    refine ej_th (cj_block ?_)
    refine cj_lpi (X := Nat) [(0, _), (2, _), (4, _), (7, _)] (fun k => k ≤ x.says.length ∧ saysOk (cc.traits.drop k) (x.says.drop k) = saysOk cc.traits x.says) (fun k => [(9, .int .i64 k)]) (fun k => [ownB b7 (cellsB 114 [.string cc.name, .slice cc.At cc.traits.length cc.ct, .slice cc.Ap cc.parts.length cc.cp, .int .i64 cc.most]), ownB b4 (cellsB 26 [.string x.cls, .slice x.As x.says.length x.cs, .slice x.Ap x.parts.length x.cp])]) (fun k => [sl (fun b => b < w.heap.size) 1 enStr cc.Ap cc.parts, sl (fun b => b < w.heap.size) 3 encTr cc.At cc.traits, sl (fun b => b < w.heap.size) 3 encIt x.Ap x.parts, sl (fun b => b < w.heap.size) 1 enStr x.As x.says, sl (fun b => b < w.heap.size) 4 encCl A l]) (fun k => x.says.length - k) 0 (⟨Nat.zero_le _, rfl⟩) ⟨rfl, rfl, rfl, rfl, rfl, trivial⟩ ?_
    rintro k ⟨hk, hso⟩
    dsimp only [List.cons_append, List.nil_append]
    refine cj_seq (cj_seq ?_)
    refine cj_regionG (gj_step (y_move rfl) rfl rfl rfl (gj_step (y_fa fa26_1 rfl) rfl rfl rfl (gj_step (y_load1 Try.isAgg23 rfl rfl) rfl rfl rfl (gj_step (y_lenA Try.underlying23 rfl) rfl rfl rfl (gj_step (y_lss rfl rfl) rfl rfl rfl (gj_nil ?_))))))
    refine ej_th ?_
    refine cj_cond rfl (fun h45 => ?_) (fun h45 => ?_)
    · have h45b := h45
      try simp only [sxb] at h45
      obtain ⟨t, ht⟩ : ∃ t, cc.traits[k]? = some t := ⟨_, List.getElem?_eq_getElem (by omega)⟩
      obtain ⟨s, hs⟩ : ∃ s, x.says[k]? = some s := ⟨_, List.getElem?_eq_getElem (by omega)⟩
      rw [saysOk_drop _ _ k t s ht hs] at hso
      have hg2 := hg1.tr t (List.mem_of_getElem? ht)
      have hl5 := hg2.rd.len
      refine cj_rd hg2.rd (fun _ h => h) ?_
      refine cj_skip (ej_th (cj_seq (cj_block (cj_seq (cj_region ?_)))))
      refine oj_step (y_fa fa114_1 rfl) rfl rfl rfl ?_
      refine oj_step (y_load1 Try.isAgg112 rfl rfl) rfl rfl rfl ?_
      refine oj_step (y_move rfl) rfl rfl rfl ?_
      refine oj_step (y_ixR (reads_sl) Try.underlying112 Try.sizeOf116 rfl rfl (⟨by omega, by omega⟩)) rfl rfl rfl ?_
      refine oj_step (y_ldW (reads_sl) Try.isAgg116 Try.sizeOf116 rfl (ht) (fun _ => rfl)) rfl rfl rfl ?_
      refine oj_alloc Try.zeroValue116 rfl rfl (fun b10 => ?_)
      refine oj_store rfl rfl rfl rfl Try.sizeOf116 rfl ?_
      refine oj_nil ?_
      refine ej_th (cj_seq ?_)
      refine cj_draw (by kernel_rfl) (by kernel_rfl) ?_
      refine gj_step (y_fa fa26_1 rfl) rfl rfl rfl (gj_step (y_load1 Try.isAgg23 rfl rfl) rfl rfl rfl (gj_step (y_move rfl) rfl rfl rfl (gj_step (y_ixR (reads_sl) Try.underlying23 Try.sizeOf9 rfl rfl (⟨by omega, by omega⟩)) rfl rfl rfl (gj_step (y_ld0 (reads_sl) Try.isAgg9 rfl (hs) rfl) rfl rfl rfl (gj_step (y_eqlS rfl rfl) rfl rfl rfl (gj_step (y_move rfl) rfl rfl rfl (?_)))))))
      refine gj_g 2 59 61 rfl rfl rfl rfl (fun hg59 => gj_yes rfl rfl rfl (y_fa fa116_2 rfl) rfl rfl (gj_yes rfl rfl rfl (y_load1 Try.isAgg4 rfl rfl) rfl rfl (gj_nil rfl))) ?_
      refine gj_step (y_and rfl rfl rfl) rfl rfl rfl (gj_step (y_move rfl) rfl rfl rfl (?_))
      refine gj_g 17 63 80 rfl rfl rfl rfl (fun hg63 => gj_yes rfl rfl rfl (y_fa fa26_1 rfl) rfl rfl (gj_yes rfl rfl rfl (y_load1 Try.isAgg23 rfl rfl) rfl rfl (gj_yes rfl rfl rfl (y_move rfl) rfl rfl (gj_yes rfl rfl rfl (y_ixR (reads_sl) Try.underlying23 Try.sizeOf9 rfl rfl (⟨by omega, by omega⟩)) rfl rfl (gj_yes rfl rfl rfl (y_ld0 (reads_sl) Try.isAgg9 rfl (hs) rfl) rfl rfl (gj_yes rfl rfl rfl (y_neqS rfl rfl) rfl rfl (gj_yes rfl rfl rfl (y_move rfl) rfl rfl (gj_g 9 70 79 rfl rfl rfl rfl (fun hg70 => gj_yes rfl rfl rfl (y_fa fa116_1 rfl) rfl rfl (gj_yes rfl rfl rfl (y_load1 Try.isAgg23 rfl rfl) rfl rfl (gj_yes rfl rfl rfl (y_fa fa26_1 rfl) rfl rfl (gj_yes rfl rfl rfl (y_load1 Try.isAgg23 rfl rfl) rfl rfl (gj_yes rfl rfl rfl (y_move rfl) rfl rfl (gj_yes rfl rfl rfl (y_ixR (reads_sl) Try.underlying23 Try.sizeOf9 rfl rfl (⟨by omega, by omega⟩)) rfl rfl (gj_yes rfl rfl rfl (y_ld0 (reads_sl) Try.isAgg9 rfl (hs) rfl) rfl rfl (gj_yes rfl rfl rfl (y_call Try.call88 rfl (fun w hp => k_SeekText t.vals t.A t.c s w hp.rd)) rfl rfl (gj_yes rfl rfl rfl (y_lss rfl rfl) rfl rfl (gj_nil rfl)))))))))) (gj_yes rfl rfl rfl (y_and rfl rfl rfl) rfl rfl (gj_nil rfl)))))))))) ?_
      refine gj_step (y_or rfl rfl rfl) rfl rfl rfl (?_)
      refine gj_nil ?_
      refine ej_th ?_
      refine cj_cond rfl (fun h81 => ?_) (fun h81 => ?_)
      · have h81b := h81
        try simp only [sxb] at h81
        rw [firstS_neg] at h81b
        have hon : saysOne t s = false := congrArg Bool.not h81b
        refine cj_seq ?_
        refine cj_regionG (gj_step (y_assign rfl) rfl rfl rfl (gj_nil ?_))
        refine ej_th (cj_ret (ej_blk_ret (ej_then_ret (ej_then_ret (ej_blk_ret (ej_then_ret ?_))))))
        refine ej_ret1 rfl Try.results89 rfl (fun w' hp => ⟨?_, hp.below⟩)
        rw [hve, ← hso, hon]; rfl
      · have h81b := h81
        try simp only [sxb] at h81
        rw [firstS_neg] at h81b
        have hon : saysOne t s = true := congrArg Bool.not h81b
        refine cj_skip (ej_blk (ej_th ?_))
        refine cj_regionG (gj_step (y_move rfl) rfl rfl rfl (gj_step (y_add rfl rfl (by omega)) rfl rfl rfl (gj_step (y_assign rfl) rfl rfl rfl (gj_nil ?_))))
        exact ej_nx (k + 1) (by omega) ⟨by omega, by rw [← hso, hon, Bool.true_and]⟩ ⟨rfl, rfl, rfl, rfl, rfl, trivial⟩
    · have h45b := h45
      try simp only [sxb] at h45
      have hsk : saysOk cc.traits x.says = true := by rw [← hso, List.drop_of_length_le (show x.says.length ≤ k by omega)]; cases cc.traits.drop k <;> rfl
      rw [hsk, Bool.true_and] at hve
      refine cj_exit (ej_then_exit (ej_then_exit (ej_blk_hit (ej_th (cj_seq (cj_seq ?_))))))
      refine cj_regionG (gj_step (y_assign rfl) rfl rfl rfl (gj_nil ?_))
      refine ej_th (cj_block ?_)
      refine cj_lpic (X := Nat) [(0, _), (2, _), (4, _), (7, _)] (fun j => j ≤ x.parts.length ∧ valL l cc.parts (x.parts.drop j) deep = valL l cc.parts x.parts deep) (fun j => [(11, .int .i64 j)]) (fun j => x.parts.length - j) 0 (⟨Nat.zero_le _, rfl⟩) ⟨rfl, rfl, rfl, rfl, rfl, trivial⟩ ?_
      rintro j ⟨hj, hsj⟩
      dsimp only [List.cons_append, List.nil_append]
      refine cj_seq (cj_seq ?_)
      refine cj_regionG (gj_step (y_move rfl) rfl rfl rfl (gj_step (y_fa fa26_2 rfl) rfl rfl rfl (gj_step (y_load1 Try.isAgg24 rfl rfl) rfl rfl rfl (gj_step (y_lenA Try.underlying24 rfl) rfl rfl rfl (gj_step (y_lss rfl rfl) rfl rfl rfl (gj_nil ?_))))))
      refine ej_th ?_
      refine cj_cond rfl (fun h86 => ?_) (fun h86 => ?_)
      · have h86b := h86
        try simp only [sxb] at h86
        obtain ⟨q, hq⟩ : ∃ q, x.parts[j]? = some q := ⟨_, List.getElem?_eq_getElem (by omega)⟩
        rw [valL_drop _ _ _ _ j q hq] at hsj
        refine cj_skip (ej_th (cj_seq (cj_block (cj_seq ?_))))
        refine cj_draw (by kernel_rfl) (by kernel_rfl) ?_
        refine gj_step (y_fa fa114_2 rfl) rfl rfl rfl (gj_step (y_load1 Try.isAgg23 rfl rfl) rfl rfl rfl (gj_step (y_fa fa26_2 rfl) rfl rfl rfl (gj_step (y_load1 Try.isAgg24 rfl rfl) rfl rfl rfl (gj_step (y_move rfl) rfl rfl rfl (gj_step (y_ixR (reads_sl) Try.underlying24 Try.sizeOf26 rfl rfl (⟨by omega, by omega⟩)) rfl rfl rfl (gj_step (y_faE fa26_0 rfl) rfl rfl rfl (gj_step (y_ld1 (reads_sl) Try.isAgg9 rfl (hq) rfl) rfl rfl rfl (?_))))))))
        refine gj_step (y_call Try.call88 rfl (fun w hp => k_SeekText cc.parts cc.Ap cc.cp q.cls w hp.rd)) rfl rfl rfl ?_
        refine gj_step (y_lss rfl rfl) rfl rfl rfl (gj_step (y_move rfl) rfl rfl rfl (?_))
        refine gj_g 10 99 109 rfl rfl rfl rfl (fun hg99 => gj_yes rfl rfl rfl (y_move rfl) rfl rfl (gj_yes rfl rfl rfl (y_fa fa26_2 rfl) rfl rfl (gj_yes rfl rfl rfl (y_load1 Try.isAgg24 rfl rfl) rfl rfl (gj_yes rfl rfl rfl (y_move rfl) rfl rfl (gj_yes rfl rfl rfl (y_ixR (reads_sl) Try.underlying24 Try.sizeOf26 rfl rfl (⟨by omega, by omega⟩)) rfl rfl (gj_yes rfl rfl rfl (y_ldW (reads_sl) Try.isAgg26 Try.sizeOf26 rfl (hq) (fun _ => rfl)) rfl rfl (gj_yes rfl rfl rfl (y_move rfl) rfl rfl (gj_yes rfl rfl rfl (y_add rfl rfl (by omega)) rfl rfl (gj_yes rfl rfl rfl (y_call Try.call89 rfl (fun w hp => ih q (List.mem_of_getElem? hq) w (deep + 1) hp.below (by omega))) rfl rfl (gj_yes rfl rfl rfl (y_not rfl) rfl rfl (gj_nil rfl))))))))))) ?_
        refine gj_step (y_or rfl rfl rfl) rfl rfl rfl (?_)
        refine gj_nil ?_
        refine ej_th ?_
        refine cj_cond rfl (fun h110 => ?_) (fun h110 => ?_)
        · have h110b := h110
          try simp only [sxb] at h110
          have hbad : (hasW cc.parts q.cls && valI l q (deep + 1)) = false := by rw [firstS_neg] at h110b; cases h1 : hasW cc.parts q.cls <;> cases h2 : valI l q (deep + 1) <;> simp [h1, h2] at h110b ⊢
          refine cj_seq ?_
          refine cj_regionG (gj_step (y_assign rfl) rfl rfl rfl (gj_nil ?_))
          refine ej_th (cj_ret (ej_blk_ret (ej_then_ret (ej_then_ret (ej_blk_ret (ej_then_ret ?_))))))
          refine ej_ret1 rfl Try.results89 rfl (fun w' hp => ⟨?_, hp.below⟩)
          rw [hve, ← hsj, hbad]; rfl
        · have h110b := h110
          try simp only [sxb] at h110
          have hgood : (hasW cc.parts q.cls && valI l q (deep + 1)) = true := by rw [firstS_neg] at h110b; cases h1 : hasW cc.parts q.cls <;> cases h2 : valI l q (deep + 1) <;> simp [h1, h2] at h110b ⊢
          refine cj_skip (ej_blk (ej_th ?_))
          refine cj_regionG (gj_step (y_move rfl) rfl rfl rfl (gj_step (y_add rfl rfl (by omega)) rfl rfl rfl (gj_step (y_assign rfl) rfl rfl rfl (gj_nil ?_))))
          exact ej_nx (j + 1) (by omega) ⟨by omega, by rw [← hsj, hgood, Bool.true_and]⟩ ⟨rfl, rfl, rfl, rfl, rfl, trivial⟩
      · have h86b := h86
        try simp only [sxb] at h86
        refine cj_exit (ej_then_exit (ej_then_exit (ej_blk_hit (ej_th (cj_seq ?_)))))
        refine cj_regionG (gj_step (y_assign rfl) rfl rfl rfl (gj_nil ?_))
        refine ej_th (cj_ret ?_)
        refine ej_ret1 rfl Try.results89 rfl (fun w' hp => ⟨?_, hp.below⟩)
        rw [hve, ← hsj, List.drop_of_length_le (show x.parts.length ≤ j by omega), valL]

theorem k_val (l : List ClassV) (A : Option Addr) (c : Nat) {w0 : World} {x : ItemV} (hx : GoodI w0 x) : ∀ (w : World) (deep : Int), Grow w0 w → gramOk l = true → Rd w 4 encCl A l → (∀ c ∈ l, GoodC w c) → 0 ≤ deep ∧ deep ≤ 100 → Calls Try.prog 89 #[.slice A l.length c, evI x, .int .i64 deep] w (fun e w' => e = .returned (.bool (valI l x deep)) ∧ Grow w w') := by
  induction hx with
  | mk hs hp hn hm hr ih =>
    intro w deep hg hgo hl hgc hd
    exact k_val1 l A c _ deep w hl hgc hgo ((GoodI.mk hs hp hn hm hr).mono hg) hd (fun p hpm w1 dp hg1 h1 => ih p hpm w1 dp (grow_trans hg hg1) hgo (hl.mono hg1) (fun q hq => (hgc q hq).mono hg1) h1)

theorem k_cnt1 (x : ItemV) (g : List (ByteArray × ClassV)) (w : World) (hx : GoodI w x) (ho : OkT g x.pl) (hcn : cntT x.pl ≤ 1000) (ih : ∀ p ∈ x.parts, ∀ (w1 : World), Grow w w1 → Calls Try.prog 83 #[evI p] w1 (fun e w' => e = .returned (.tuple #[.int .i64 (cntT p.pl), .int .i64 (sdT p.pl)]) ∧ Grow w1 w')) : Calls Try.prog 83 #[evI x] w (fun e w' => e = .returned (.tuple #[.int .i64 (cntT x.pl), .int .i64 (sdT x.pl)]) ∧ Grow w w') := by
  have hl1 := hx.rs.len
  have hl2 := hx.rp.len
  obtain ⟨cc, _, hsl, ht8, _⟩ := ho.get
  rw [pl_says] at hsl
  have hce := cntT_eq x.pl
  rw [pl_parts, ← plL_map] at hce
  have hse := sdT_eq x.pl
  rw [pl_says, pl_parts, ← plL_map] at hse
  have hsb := sd_bd x.pl ho
  have hsn0 := saidN_bd x.says
  refine enter_pure (args := [evI x]) [] Try.func83 rfl (by rw [Try.ntmps83]; simp) (by simp) ?_
  refine cj_seq (cj_region ?_)
  refine oj_box rfl rfl rfl (fun b1 => ?_)
  refine oj_step (y_assign rfl) rfl rfl rfl ?_
  refine oj_step (y_assign rfl) rfl rfl rfl ?_
  refine oj_nil ?_
  refine ej_th (cj_seq ?_)
  refine cj_rd hx.rs (fun _ h => h) ?_
  refine cj_rd hx.rp (fun _ h => h) ?_
  refine cj_regionG (gj_step (y_assign rfl) rfl rfl rfl (gj_step (y_assign rfl) rfl rfl rfl (gj_nil ?_)))
  refine ej_th (cj_seq (cj_seq ?_))
  refine cj_regionG (gj_step (y_assign rfl) rfl rfl rfl (gj_nil ?_))
  refine ej_th (cj_block ?_)
  skip
  refine cj_lpic (X := Nat) [(1, _), (2, _), (3, _), (4, _)] (fun k => k ≤ x.says.length) (fun k => [(5, .int .i64 (saidN (x.says.take k))), (6, .int .i64 k)]) (fun k => x.says.length - k) 0 (Nat.zero_le _) ⟨rfl, rfl, rfl, rfl, rfl, rfl, trivial⟩ ?_
  rintro k hk
  dsimp only [List.cons_append, List.nil_append]
  refine cj_seq (cj_seq ?_)
  refine cj_regionG (gj_step (y_move rfl) rfl rfl rfl (gj_step (y_fa fa26_1 rfl) rfl rfl rfl (gj_step (y_load1 Try.isAgg23 rfl rfl) rfl rfl rfl (gj_step (y_lenA Try.underlying23 rfl) rfl rfl rfl (gj_step (y_lss rfl rfl) rfl rfl rfl (gj_nil ?_))))))
  refine ej_th ?_
  refine cj_cond rfl (fun h14 => ?_) (fun h14 => ?_)
  · have h14b := h14
    try simp only [sxb] at h14
    obtain ⟨s, hs⟩ : ∃ s, x.says[k]? = some s := ⟨_, List.getElem?_eq_getElem (by omega)⟩
    have hst := saidN_take x.says k s hs
    have hsb2 := saidN_bd (x.says.take k)
    have htl : (x.says.take k).length ≤ 8 := by rw [List.length_take]; omega
    refine cj_skip (ej_th (cj_seq (cj_block (cj_seq ?_))))
    refine cj_regionG (gj_step (y_fa fa26_1 rfl) rfl rfl rfl (gj_step (y_load1 Try.isAgg23 rfl rfl) rfl rfl rfl (gj_step (y_move rfl) rfl rfl rfl (gj_step (y_ixR (reads_sl) Try.underlying23 Try.sizeOf9 rfl rfl (⟨by omega, by omega⟩)) rfl rfl rfl (gj_step (y_ld0 (reads_sl) Try.isAgg9 rfl (hs) rfl) rfl rfl rfl (gj_step (y_neqS rfl rfl) rfl rfl rfl (gj_nil ?_)))))))
    refine ej_th ?_
    refine cj_cond rfl (fun h22 => ?_) (fun h22 => ?_)
    · have h22b := h22
      try simp only [sxb] at h22
      rw [if_neg (show ¬ (s == (⟨#[]⟩ : ByteArray)) = true by rw [not_t h22b]; simp)] at hst
      refine cj_regionG (gj_step (y_move rfl) rfl rfl rfl (gj_step (y_add rfl rfl (by omega)) rfl rfl rfl (gj_step (y_assign rfl) rfl rfl rfl (gj_nil ?_))))
      refine ej_blk (ej_th ?_)
      refine cj_regionG (gj_step (y_move rfl) rfl rfl rfl (gj_step (y_add rfl rfl (by omega)) rfl rfl rfl (gj_step (y_assign rfl) rfl rfl rfl (gj_nil ?_))))
      rw [← hst]
      exact ej_nx (k + 1) (by omega) (by omega) ⟨rfl, rfl, rfl, rfl, rfl, rfl, trivial⟩
    · have h22b := h22
      try simp only [sxb] at h22
      rw [if_pos (not_f h22b)] at hst
      refine cj_skip (ej_blk (ej_th ?_))
      refine cj_regionG (gj_step (y_move rfl) rfl rfl rfl (gj_step (y_add rfl rfl (by omega)) rfl rfl rfl (gj_step (y_assign rfl) rfl rfl rfl (gj_nil ?_))))
      rw [show saidN (x.says.take k) = saidN (x.says.take (k + 1)) by omega]
      exact ej_nx (k + 1) (by omega) (by omega) ⟨rfl, rfl, rfl, rfl, rfl, rfl, trivial⟩
  · have h14b := h14
    try simp only [sxb] at h14
    rw [List.take_of_length_le (show x.says.length ≤ k by omega)]
    refine cj_exit (ej_then_exit (ej_then_exit (ej_blk_hit (ej_th (cj_seq (cj_seq ?_))))))
    refine cj_regionG (gj_step (y_assign rfl) rfl rfl rfl (gj_nil ?_))
    refine ej_th (cj_block ?_)
    refine cj_lpic (X := Nat × Int × Int) [(1, _), (2, _), (3, _)] (fun ⟨j, n, m⟩ => j ≤ x.parts.length ∧ (1 ≤ n ∧ 0 ≤ m) ∧ n + cntL (plL (x.parts.drop j)) = cntT x.pl ∧ m + sdL (plL (x.parts.drop j)) = sdT x.pl) (fun ⟨j, n, m⟩ => [(4, .int .i64 n), (5, .int .i64 m), (7, .int .i64 j)]) (fun ⟨j, n, m⟩ => x.parts.length - j) (0, 1, saidN x.says) (⟨Nat.zero_le _, ⟨Int.le_refl _, hsn0.1⟩, hce.symm, hse.symm⟩) ⟨rfl, rfl, rfl, rfl, rfl, rfl, trivial⟩ ?_
    rintro ⟨j, n, m⟩ ⟨hj, hnm, hn1, hm1⟩
    dsimp only [List.cons_append, List.nil_append]
    refine cj_seq (cj_seq ?_)
    refine cj_regionG (gj_step (y_move rfl) rfl rfl rfl (gj_step (y_fa fa26_2 rfl) rfl rfl rfl (gj_step (y_load1 Try.isAgg24 rfl rfl) rfl rfl rfl (gj_step (y_lenA Try.underlying24 rfl) rfl rfl rfl (gj_step (y_lss rfl rfl) rfl rfl rfl (gj_nil ?_))))))
    refine ej_th ?_
    refine cj_cond rfl (fun h29 => ?_) (fun h29 => ?_)
    · have h29b := h29
      try simp only [sxb] at h29
      obtain ⟨q, hq⟩ : ∃ q, x.parts[j]? = some q := ⟨_, List.getElem?_eq_getElem (by omega)⟩
      obtain ⟨hd1, hd2⟩ := cntL_drop x.parts j q hq
      have hqo : OkT g q.pl := ho.pt _ (by rw [pl_parts]; exact List.mem_map.2 ⟨q, List.mem_of_getElem? hq, rfl⟩)
      have hqs := sd_bd q.pl hqo
      have hqc := cnt_pos q.pl
      have hrp := cntL_pos (plL (x.parts.drop (j + 1)))
      have hrs := (sdL_bd (g := g) (plL (x.parts.drop (j + 1))) (fun p hp => by rw [plL_map] at hp; obtain ⟨r, hr, rfl⟩ := List.mem_map.1 hp; exact ho.pt _ (by rw [pl_parts]; exact List.mem_map.2 ⟨r, List.mem_of_mem_drop hr, rfl⟩))).1
      refine cj_skip (ej_th (cj_seq (cj_block (cj_seq ?_))))
      refine cj_regionG ?_
      refine gj_step (y_fa fa26_2 rfl) rfl rfl rfl (gj_step (y_load1 Try.isAgg24 rfl rfl) rfl rfl rfl (gj_step (y_move rfl) rfl rfl rfl (gj_step (y_ixR (reads_sl) Try.underlying24 Try.sizeOf26 rfl rfl (⟨by omega, by omega⟩)) rfl rfl rfl (gj_step (y_ldW (reads_sl) Try.isAgg26 Try.sizeOf26 rfl (hq) (fun _ => rfl)) rfl rfl rfl (?_)))))
      refine gj_step (y_call Try.call83 rfl (fun w hp => ih q (List.mem_of_getElem? hq) w hp.below)) rfl rfl rfl ?_
      refine gj_step (y_move rfl) rfl rfl rfl (gj_step (y_extract rfl rfl) rfl rfl rfl (gj_step (y_extract rfl rfl) rfl rfl rfl (gj_step (y_assign rfl) rfl rfl rfl (gj_step (y_assign rfl) rfl rfl rfl (?_)))))
      refine gj_nil ?_
      refine ej_th ?_
      refine cj_regionG (gj_step (y_move rfl) rfl rfl rfl (gj_step (y_move rfl) rfl rfl rfl (gj_step (y_add rfl rfl (by omega)) rfl rfl rfl (gj_step (y_move rfl) rfl rfl rfl (gj_step (y_move rfl) rfl rfl rfl (gj_step (y_add rfl rfl (by omega)) rfl rfl rfl (gj_step (y_assign rfl) rfl rfl rfl (gj_step (y_assign rfl) rfl rfl rfl (gj_nil ?_)))))))))
      refine ej_blk (ej_th ?_)
      refine cj_regionG (gj_step (y_move rfl) rfl rfl rfl (gj_step (y_add rfl rfl (by omega)) rfl rfl rfl (gj_step (y_assign rfl) rfl rfl rfl (gj_nil ?_))))
      exact ej_nx (j + 1, n + cntT q.pl, m + sdT q.pl) (by simp only; omega) ⟨by first | omega | (simp only; omega), by simp only; omega, by simp only; omega, by simp only; omega⟩ ⟨rfl, rfl, rfl, rfl, rfl, rfl, trivial⟩
    · have h29b := h29
      try simp only [sxb] at h29
      rw [List.drop_of_length_le (show x.parts.length ≤ j by omega), plL, cntL] at hn1
      rw [List.drop_of_length_le (show x.parts.length ≤ j by omega), plL, sdL] at hm1
      refine cj_exit (ej_then_exit (ej_then_exit (ej_blk_hit (ej_th (cj_seq ?_)))))
      refine cj_regionG (gj_step (y_move rfl) rfl rfl rfl (gj_step (y_move rfl) rfl rfl rfl (gj_step (y_assign rfl) rfl rfl rfl (gj_step (y_assign rfl) rfl rfl rfl (gj_nil ?_)))))
      refine ej_th (cj_ret ?_)
      refine ej_ret2 rfl Try.results83 rfl rfl (fun w' hp => ⟨?_, hp.below⟩)
      rw [show n = cntT x.pl by omega, show m = sdT x.pl by omega]

theorem k_cnt {w0 : World} {g : List (ByteArray × ClassV)} {x : ItemV} (hx : GoodI w0 x) : ∀ (w : World), Grow w0 w → OkT g x.pl → cntT x.pl ≤ 1000 → Calls Try.prog 83 #[evI x] w (fun e w' => e = .returned (.tuple #[.int .i64 (cntT x.pl), .int .i64 (sdT x.pl)]) ∧ Grow w w') := by
  induction hx with
  | @mk x hs hp hn hm hr ih =>
    intro w hg ho hc
    exact k_cnt1 _ g w ((GoodI.mk hs hp hn hm hr).mono hg) ho hc (fun p hpm w1 hg1 => ih p hpm w1 (grow_trans hg hg1) (ho.pt _ (by rw [pl_parts]; exact List.mem_map.2 ⟨p, hpm, rfl⟩)) (by
      have h1 := cntT_eq x.pl
      have h2 := cntL_mem x.pl.parts p.pl (by rw [pl_parts]; exact List.mem_map.2 ⟨p, hpm, rfl⟩)
      omega))

theorem k_rCheck (l : List ClassV) (A : Option Addr) (c : Nat) (x : ItemV) (w : World) (hl : Rd w 4 encCl A l) (hgc : ∀ c ∈ l, GoodC w c) (hx : GoodI w x) : Calls Try.prog 44 #[.slice A l.length c, evI x] w (fun e w' => e = .returned (.int .i64 (askIE l [x])) ∧ Grow w w') := by
  refine enter_pure (args := [.slice A l.length c, evI x]) [sl (fun b => b < w.heap.size) 4 encCl A l] Try.func44 rfl (by rw [Try.ntmps44]; simp) (fun g hg => by simp at hg; subst hg; exact ⟨hl, fun _ h => h⟩) ?_
  refine cj_seq (cj_region ?_)
  refine oj_box rfl rfl rfl (fun b3 => ?_)
  refine oj_step (y_assign rfl) rfl rfl rfl ?_
  refine oj_nil ?_
  refine ej_th (cj_seq (cj_seq ?_))
  refine cj_regionG ?_
  refine gj_step (y_move rfl) rfl rfl rfl (?_)
  refine gj_step (y_call Try.call43 rfl (fun w hp => k_rCheckG l A c w hp.rd (fun q hq => (hgc q hq).mono hp.below))) rfl rfl rfl ?_
  refine gj_step (y_assign rfl) rfl rfl rfl (?_)
  refine gj_nil ?_
  refine ej_th (cj_seq ?_)
  refine cj_regionG (gj_step (y_move rfl) rfl rfl rfl (gj_step (y_neq rfl rfl) rfl rfl rfl (gj_nil ?_)))
  refine ej_th ?_
  refine cj_cond rfl (fun h11 => ?_) (fun h11 => ?_)
  · have h11b := h11
    try simp only [sxb] at h11
    have hno := gram_n h11b
    refine cj_seq ?_
    refine cj_regionG (gj_step (y_move rfl) rfl rfl rfl (gj_step (y_assign rfl) rfl rfl rfl (gj_nil ?_)))
    refine ej_th (cj_ret (ej_then_ret ?_))
    refine ej_ret1 rfl Try.results44 rfl (fun w' hp => ⟨?_, hp.below⟩)
    rw [ask_r1 x hno, gramE, hno]; rfl
  · have h11b := h11
    try simp only [sxb] at h11
    have hgo := gram_0 h11b
    refine cj_skip (ej_th (cj_seq (cj_seq ?_)))
    refine cj_regionG ?_
    refine gj_step (y_move rfl) rfl rfl rfl (gj_step (y_loadN Try.isAgg26 Try.sizeOf26 rfl) rfl rfl rfl (?_))
    refine gj_step (y_call Try.call89 rfl (fun w hp => k_val l A c hx w 1 hp.below hgo hp.rd (fun q hq => (hgc q hq).mono hp.below) (by omega))) rfl rfl rfl ?_
    refine gj_step (y_not rfl) rfl rfl rfl (?_)
    refine gj_nil ?_
    refine ej_th ?_
    refine cj_cond rfl (fun h16 => ?_) (fun h16 => ?_)
    · have h16b := h16
      try simp only [sxb] at h16
      refine cj_seq ?_
      refine cj_regionG (gj_step (y_assign rfl) rfl rfl rfl (gj_nil ?_))
      refine ej_th (cj_ret (ej_then_ret ?_))
      refine ej_ret1 rfl Try.results44 rfl (fun w' hp => ⟨?_, hp.below⟩)
      rw [ask_r2 hgo (not_t h16b)]
    · have h16b := h16
      try simp only [sxb] at h16
      have hvv := not_f h16b
      obtain ⟨_, hvo, hvc⟩ := val_cnt hgo x 1 hvv (by omega)
      rw [if_neg (by omega), if_neg (by omega)] at hvc
      refine cj_skip (ej_th (cj_seq (cj_seq ?_)))
      refine cj_regionG ?_
      refine gj_step (y_loadN Try.isAgg26 Try.sizeOf26 rfl) rfl rfl rfl (?_)
      refine gj_step (y_call Try.call83 rfl (fun w hp => k_cnt hx w hp.below hvo (by omega))) rfl rfl rfl ?_
      refine gj_step (y_move rfl) rfl rfl rfl (gj_step (y_extract rfl rfl) rfl rfl rfl (gj_step (y_extract rfl rfl) rfl rfl rfl (gj_step (y_assign rfl) rfl rfl rfl (gj_step (y_assign rfl) rfl rfl rfl (?_)))))
      refine gj_nil ?_
      refine ej_th (cj_seq ?_)
      refine cj_regionG (gj_step (y_move rfl) rfl rfl rfl (gj_step (y_gtr rfl rfl) rfl rfl rfl (gj_nil ?_)))
      refine ej_th ?_
      refine cj_cond rfl (fun h23 => ?_) (fun h23 => ?_)
      · have h23b := h23
        try simp only [sxb] at h23
        refine cj_seq ?_
        refine cj_regionG (gj_step (y_assign rfl) rfl rfl rfl (gj_nil ?_))
        refine ej_th (cj_ret (ej_then_ret ?_))
        refine ej_ret1 rfl Try.results44 rfl (fun w' hp => ⟨?_, hp.below⟩)
        rw [ask_r3 hgo (by omega)]
      · have h23b := h23
        try simp only [sxb] at h23
        refine cj_skip (ej_th (cj_seq ?_))
        refine cj_regionG (gj_step (y_assign rfl) rfl rfl rfl (gj_nil ?_))
        refine ej_th (cj_ret ?_)
        refine ej_ret1 rfl Try.results44 rfl (fun w' hp => ⟨?_, hp.below⟩)
        rw [ask_r4 hgo hvv (by omega)]

theorem k_rCount (l : List ClassV) (A : Option Addr) (c : Nat) (x : ItemV) (w : World) (hl : Rd w 4 encCl A l) (hgc : ∀ c ∈ l, GoodC w c) (hx : GoodI w x) : Calls Try.prog 39 #[.slice A l.length c, evI x] w (fun e w' => e = .returned (.tuple #[.int .i64 (CntI l x), .int .i64 (CntS l x), .int .i64 (askIE l [x])]) ∧ Grow w w') := by
  refine enter_pure (args := [.slice A l.length c, evI x]) [sl (fun b => b < w.heap.size) 4 encCl A l] Try.func39 rfl (by rw [Try.ntmps39]; simp) (fun g hg => by simp at hg; subst hg; exact ⟨hl, fun _ h => h⟩) ?_
  refine cj_seq (cj_region ?_)
  refine oj_box rfl rfl rfl (fun b3 => ?_)
  refine oj_step (y_assign rfl) rfl rfl rfl ?_
  refine oj_step (y_assign rfl) rfl rfl rfl ?_
  refine oj_step (y_assign rfl) rfl rfl rfl ?_
  refine oj_nil ?_
  refine ej_th (cj_seq (cj_seq ?_))
  refine cj_regionG ?_
  refine gj_step (y_move rfl) rfl rfl rfl (gj_step (y_loadN Try.isAgg26 Try.sizeOf26 rfl) rfl rfl rfl (?_))
  refine gj_step (y_call Try.call44 rfl (fun w hp => k_rCheck l A c x w hp.rd (fun q hq => (hgc q hq).mono hp.below) (hx.mono hp.below))) rfl rfl rfl ?_
  refine gj_step (y_assign rfl) rfl rfl rfl (?_)
  refine gj_nil ?_
  refine ej_th (cj_seq ?_)
  refine cj_regionG (gj_step (y_move rfl) rfl rfl rfl (gj_step (y_neq rfl rfl) rfl rfl rfl (gj_nil ?_)))
  refine ej_th ?_
  refine cj_cond rfl (fun h14 => ?_) (fun h14 => ?_)
  · have h14b := h14
    try simp only [sxb] at h14
    have hno := askIE_no h14b
    refine cj_seq ?_
    refine cj_regionG (gj_step (y_move rfl) rfl rfl rfl (gj_step (y_assign rfl) rfl rfl rfl (gj_step (y_assign rfl) rfl rfl rfl (gj_step (y_assign rfl) rfl rfl rfl (gj_nil ?_)))))
    refine ej_th (cj_ret (ej_then_ret ?_))
    refine ej_ret3 rfl Try.results39 rfl rfl rfl (fun w' hp => ⟨?_, hp.below⟩)
    rw [CntI, CntS, hno]; rfl
  · have h14b := h14
    try simp only [sxb] at h14
    have hok := askIE_ok h14b
    obtain ⟨hoT, hcn⟩ := ask_T hok x (by simp)
    have hz : askIE l [x] = 0 := by simpa using h14b
    refine cj_skip (ej_th (cj_seq ?_))
    refine cj_regionG ?_
    refine gj_step (y_loadN Try.isAgg26 Try.sizeOf26 rfl) rfl rfl rfl (?_)
    refine gj_step (y_call Try.call83 rfl (fun w hp => k_cnt hx w hp.below hoT (by omega))) rfl rfl rfl ?_
    refine gj_step (y_move rfl) rfl rfl rfl (gj_step (y_extract rfl rfl) rfl rfl rfl (gj_step (y_extract rfl rfl) rfl rfl rfl (gj_step (y_assign rfl) rfl rfl rfl (gj_step (y_assign rfl) rfl rfl rfl (?_)))))
    refine gj_nil ?_
    refine ej_th (cj_seq ?_)
    refine cj_regionG (gj_step (y_move rfl) rfl rfl rfl (gj_step (y_move rfl) rfl rfl rfl (gj_step (y_assign rfl) rfl rfl rfl (gj_step (y_assign rfl) rfl rfl rfl (gj_step (y_assign rfl) rfl rfl rfl (gj_nil ?_))))))
    refine ej_th (cj_ret ?_)
    refine ej_ret3 rfl Try.results39 rfl rfl rfl (fun w' hp => ⟨?_, hp.below⟩)
    rw [CntI, CntS, hok, hz]; rfl

set_option maxHeartbeats 1000000 in
theorem k_PledgeChecks (s : ByteArray) (l : List ClassV) (A : Option Addr) (c : Nat) (x : ItemV) (w : World) (hs : s.size ≤ 9223372036854775807) (hl : Rd w 4 encCl A l) (hgc : ∀ c ∈ l, GoodC w c) (hx : GoodI w x) : Calls Try.prog 9 #[.string s, .slice A l.length c, evI x] w (fun e w' => e = .returned (.bool true) ∧ Grow w w') := by
  refine enter_pure (args := [.string s, .slice A l.length c, evI x]) [sl (fun b => b < w.heap.size) 4 encCl A l] Try.func9 rfl (by rw [Try.ntmps9]; simp) (fun g hg => by simp at hg; subst hg; exact ⟨hl, fun _ h => h⟩) ?_
  refine cj_seq (cj_region ?_)
  refine oj_box rfl rfl rfl (fun b5 => ?_)
  refine oj_step (y_assign rfl) rfl rfl rfl ?_
  refine oj_nil ?_
  refine ej_th (cj_seq ?_)
  refine cj_regionG ?_
  refine gj_step (y_move rfl) rfl rfl rfl (gj_step (y_loadN Try.isAgg26 Try.sizeOf26 rfl) rfl rfl rfl (?_))
  refine gj_step (y_call Try.call38 rfl (fun w hp => k_Count l A c x w hp.rd (fun q hq => (hgc q hq).mono hp.below) (hx.mono hp.below))) rfl rfl rfl ?_
  refine gj_step (y_move rfl) rfl rfl rfl (gj_step (y_extract rfl rfl) rfl rfl rfl (gj_step (y_extract rfl rfl) rfl rfl rfl (gj_step (y_extract rfl rfl) rfl rfl rfl (gj_step (y_assign rfl) rfl rfl rfl (gj_step (y_assign rfl) rfl rfl rfl (gj_step (y_assign rfl) rfl rfl rfl (?_)))))))
  refine gj_nil ?_
  refine ej_th (cj_seq ?_)
  refine cj_regionG ?_
  refine gj_step (y_move rfl) rfl rfl rfl (gj_step (y_loadN Try.isAgg26 Try.sizeOf26 rfl) rfl rfl rfl (?_))
  refine gj_step (y_call Try.call39 rfl (fun w hp => k_rCount l A c x w hp.rd (fun q hq => (hgc q hq).mono hp.below) (hx.mono hp.below))) rfl rfl rfl ?_
  refine gj_step (y_move rfl) rfl rfl rfl (gj_step (y_extract rfl rfl) rfl rfl rfl (gj_step (y_extract rfl rfl) rfl rfl rfl (gj_step (y_extract rfl rfl) rfl rfl rfl (gj_step (y_assign rfl) rfl rfl rfl (gj_step (y_assign rfl) rfl rfl rfl (gj_step (y_assign rfl) rfl rfl rfl (?_)))))))
  refine gj_nil ?_
  refine ej_th (cj_seq ?_)
  refine cj_draw (by kernel_rfl) (by kernel_rfl) ?_
  refine gj_step (y_move rfl) rfl rfl rfl (gj_step (y_move rfl) rfl rfl rfl (gj_step (y_eql rfl rfl) rfl rfl rfl (gj_step (y_move rfl) rfl rfl rfl (?_))))
  refine gj_g 3 30 33 rfl rfl rfl rfl (fun hg30 => gj_yes rfl rfl rfl (y_move rfl) rfl rfl (gj_yes rfl rfl rfl (y_move rfl) rfl rfl (gj_yes rfl rfl rfl (y_eql rfl rfl) rfl rfl (gj_nil rfl)))) ?_
  refine gj_step (y_and rfl rfl rfl) rfl rfl rfl (gj_step (y_move rfl) rfl rfl rfl (?_))
  refine gj_g 3 35 38 rfl rfl rfl rfl (fun hg35 => gj_yes rfl rfl rfl (y_move rfl) rfl rfl (gj_yes rfl rfl rfl (y_move rfl) rfl rfl (gj_yes rfl rfl rfl (y_eql rfl rfl) rfl rfl (gj_nil rfl)))) ?_
  refine gj_step (y_and rfl rfl rfl) rfl rfl rfl (gj_step (y_move rfl) rfl rfl rfl (?_))
  refine gj_g 5 40 45 rfl rfl rfl rfl (fun hg40 => gj_yes rfl rfl rfl (y_move rfl) rfl rfl (gj_yes rfl rfl rfl (y_call Try.call40 rfl (fun w hp => k_IsWord s w hs)) rfl rfl (gj_yes rfl rfl rfl (y_move rfl) rfl rfl (gj_yes rfl rfl rfl (y_call Try.call41 rfl (fun w hp => k_rIsWord s w hs)) rfl rfl (gj_yes rfl rfl rfl (y_eqlB Try.underlying4 rfl rfl) rfl rfl (gj_nil rfl)))))) ?_
  refine gj_step (y_and rfl rfl rfl) rfl rfl rfl (gj_step (y_move rfl) rfl rfl rfl (?_))
  refine gj_g 5 47 52 rfl rfl rfl rfl (fun hg47 => gj_yes rfl rfl rfl (y_move rfl) rfl rfl (gj_yes rfl rfl rfl (y_call Try.call42 rfl (fun w hp => k_CheckG l A c w hp.rd (fun q hq => (hgc q hq).mono hp.below))) rfl rfl (gj_yes rfl rfl rfl (y_move rfl) rfl rfl (gj_yes rfl rfl rfl (y_call Try.call43 rfl (fun w hp => k_rCheckG l A c w hp.rd (fun q hq => (hgc q hq).mono hp.below))) rfl rfl (gj_yes rfl rfl rfl (y_eql rfl rfl) rfl rfl (gj_nil rfl)))))) ?_
  refine gj_step (y_and rfl rfl rfl) rfl rfl rfl (gj_step (y_move rfl) rfl rfl rfl (?_))
  refine gj_g 7 54 61 rfl rfl rfl rfl (fun hg54 => gj_yes rfl rfl rfl (y_move rfl) rfl rfl (gj_yes rfl rfl rfl (y_loadN Try.isAgg26 Try.sizeOf26 rfl) rfl rfl (gj_yes rfl rfl rfl (y_call Try.call36 rfl (fun w hp => k_Check l A c x w hp.rd (fun q hq => (hgc q hq).mono hp.below) (hx.mono hp.below))) rfl rfl (gj_yes rfl rfl rfl (y_move rfl) rfl rfl (gj_yes rfl rfl rfl (y_loadN Try.isAgg26 Try.sizeOf26 rfl) rfl rfl (gj_yes rfl rfl rfl (y_call Try.call44 rfl (fun w hp => k_rCheck l A c x w hp.rd (fun q hq => (hgc q hq).mono hp.below) (hx.mono hp.below))) rfl rfl (gj_yes rfl rfl rfl (y_eql rfl rfl) rfl rfl (gj_nil rfl)))))))) ?_
  refine gj_step (y_and rfl rfl rfl) rfl rfl rfl (gj_step (y_move rfl) rfl rfl rfl (?_))
  refine gj_g 1 63 64 rfl rfl rfl rfl (fun hg63 => gj_yes rfl rfl rfl (y_call Try.call18 rfl (fun w hp => k_works w)) rfl rfl (gj_nil rfl)) ?_
  refine gj_step (y_and rfl rfl rfl) rfl rfl rfl (gj_step (y_assign rfl) rfl rfl rfl (?_))
  refine gj_nil ?_
  refine ej_th (cj_ret ?_)
  refine ej_ret1 rfl Try.results9 rfl (fun w' hp => ⟨?_, hp.below⟩)
  simp

end Go.Proofs.Ytlfbghkcfmcnlaa
namespace Go.Proofs.Ytlfbghkcfmcnlaa
open Go.Sx Go.RowKit
set_option maxRecDepth 20000

end Go.Proofs.Ytlfbghkcfmcnlaa
namespace Go.Proofs.Ytlfbghkcfmcnlaa
open Go.Sx Go.RowKit
set_option maxRecDepth 20000
theorem k_Own (l : List Int) (A : Option Addr) (c : Nat) (w : World) (hl : Rd w 1 enInt A l) (h8 : l.length ≤ 1000000) : Calls Try.prog 116 #[.slice A l.length c] w (fun e w' => ∃ B d, e = .returned (.slice B l.length d) ∧ Grow w w' ∧ (ow 3 1 enInt B d l).P w' ∧ ∀ b, (ow 3 1 enInt B d l).fp b → w.heap.size ≤ b) := by
  refine enter_pure (args := [.slice A l.length c]) [sl (fun b => b < w.heap.size) 1 enInt A l] Try.func116 rfl (by rw [Try.ntmps116]; simp) (fun g hg => by simp at hg; subst hg; exact ⟨hl, fun _ h => h⟩) ?_
  refine cj_seq ?_
  refine cj_regionG (gj_step (y_assign rfl) rfl rfl rfl (gj_nil ?_))
  refine ej_th (cj_seq (cj_region ?_))
  refine oj_buildSlice (cs := []) [] Try.underlying37 Try.sizeOf3 Try.zeroValue3 rfl rfl (by kernel_rfl) (by kernel_rfl) rfl (fun b3 => ?_)
  refine oj_litOw (b := b3) (e := 3) (c := 0) (sz := 1) (enc := enInt) [] rfl rfl rfl (by unfold maxLen; simp) ?_
  refine oj_step (y_move rfl) rfl rfl rfl ?_
  refine oj_append (xs := ([] : List Int)) (c := 0) el37 (fun _ => rfl) enInt_one rfl rfl rfl (reads_sl) (by unfold maxLen; simp only [List.length_nil]; omega) (by simp only [List.length_nil]; omega) rfl (fun A5 c5 => ?_)
  refine oj_step (y_assign rfl) rfl rfl rfl ?_
  refine oj_nil ?_
  refine ej_th (cj_ret ?_)
  exact ej_ret1 rfl Try.results116 rfl (fun w' hp => ⟨A5, c5, by simp, hp.below, by have h9 := hp.resO (A := A5) (e := 3) (c := c5) (sz := 1) (enc := enInt) (xs := [] ++ l); simpa using h9⟩)

set_option maxHeartbeats 2000000 in
theorem k_asgn1 (a b : List ItemV) (Aa Ab : Option Addr) (ca cb : Nat) (i : Nat) (us : List Int) (Au : Option Addr) (cu : Nat) (w : World) (ha : Rd w 3 encIt Aa a) (hb : Rd w 3 encIt Ab b) (ha24 : a.length ≤ 24) (hb24 : b.length ≤ 24) (hu : Rd w 1 enInt Au us) (hul : us.length ≤ i) (hi : i ≤ a.length) (ihc : ∀ p ∈ a, ∀ q ∈ b, ∀ w1, Grow w w1 → Calls Try.prog 52 #[evI p, evI q] w1 (fun e w' => e = .returned (.bool (covI p q)) ∧ Grow w1 w')) (ihf : ∀ (vs : List Int) (Av : Option Addr) (cv : Nat) (w1 : World), i < a.length → Grow w w1 → Rd w1 1 enInt Av vs → vs.length ≤ i + 1 → Calls Try.prog 93 #[.slice Aa a.length ca, .slice Ab b.length cb, .int .i64 ((i : Int) + 1), .slice Av vs.length cv] w1 (fun e w' => e = .returned (.bool (asR (covRows (a.drop (i + 1)) b) vs)) ∧ Grow w1 w')) : Calls Try.prog 93 #[.slice Aa a.length ca, .slice Ab b.length cb, .int .i64 (i : Nat), .slice Au us.length cu] w (fun e w' => e = .returned (.bool (asR (covRows (a.drop i) b) us)) ∧ Grow w w') := by
  refine enter_pure (args := [.slice Aa a.length ca, .slice Ab b.length cb, .int .i64 (i : Nat), .slice Au us.length cu]) [sl (fun b => b < w.heap.size) 3 encIt Aa a, sl (fun b => b < w.heap.size) 3 encIt Ab b, sl (fun b => b < w.heap.size) 1 enInt Au us] Try.func93 rfl (by rw [Try.ntmps93]; simp) (fun g hg => by simp at hg; rcases hg with rfl | rfl | rfl; exact ⟨ha, fun _ h => h⟩; exact ⟨hb, fun _ h => h⟩; exact ⟨hu, fun _ h => h⟩) ?_
  refine cj_seq ?_
  refine cj_regionG (gj_step (y_assign rfl) rfl rfl rfl (gj_nil ?_))
  refine ej_th (cj_seq (cj_seq ?_))
  refine cj_regionG (gj_step (y_move rfl) rfl rfl rfl (gj_step (y_move rfl) rfl rfl rfl (gj_step (y_lenA Try.underlying24 rfl) rfl rfl rfl (gj_step (y_eql rfl rfl) rfl rfl rfl (gj_nil ?_)))))
  refine ej_th ?_
  refine cj_cond rfl (fun h13 => ?_) (fun h13 => ?_)
  · have h13b := h13
    try simp only [sxb] at h13
    have hie : i = a.length := by omega
    have hro : covRows (a.drop i) b = [] := by rw [List.drop_of_length_le (by omega)]; unfold covRows; rfl
    refine cj_seq ?_
    refine cj_regionG (gj_step (y_assign rfl) rfl rfl rfl (gj_nil ?_))
    refine ej_th (cj_ret (ej_then_ret ?_))
    refine ej_ret1 rfl Try.results93 rfl (fun w' hp => ⟨?_, hp.below⟩)
    rw [hro]; rfl
  · have h13b := h13
    try simp only [sxb] at h13
    obtain ⟨p, hx⟩ : ∃ p, a[i]? = some p := ⟨_, List.getElem?_eq_getElem (by omega)⟩
    have hro := covRows_drop a b i p hx
    refine cj_skip (ej_th (cj_seq (cj_seq ?_)))
    refine cj_regionG (gj_step (y_assign rfl) rfl rfl rfl (gj_nil ?_))
    refine ej_th (cj_block ?_)
    refine cj_lpi (X := Nat) [(0, _), (1, _), (2, _), (3, _)] (fun k => k ≤ b.length ∧ tryR (fun k => asR (covRows (a.drop (i + 1)) b) (us ++ [(k : Int)])) ((b.map (fun q => covI p q)).drop k) k us = asR (covRows (a.drop i) b) us) (fun k => [(9, .int .i64 k)]) (fun k => ([] : List Fact)) (fun k => [sl (fun b => b < w.heap.size) 3 encIt Aa a, sl (fun b => b < w.heap.size) 3 encIt Ab b, sl (fun b => b < w.heap.size) 1 enInt Au us]) (fun k => b.length - k) 0 (⟨Nat.zero_le _, by rw [hro]; rfl⟩) ⟨rfl, rfl, rfl, rfl, rfl, trivial⟩ ?_
    rintro k ⟨hk, hsc⟩
    dsimp only [List.cons_append, List.nil_append]
    refine cj_seq (cj_seq ?_)
    refine cj_regionG (gj_step (y_move rfl) rfl rfl rfl (gj_step (y_move rfl) rfl rfl rfl (gj_step (y_lenA Try.underlying24 rfl) rfl rfl rfl (gj_step (y_lss rfl rfl) rfl rfl rfl (gj_nil ?_)))))
    refine ej_th ?_
    refine cj_cond rfl (fun h17 => ?_) (fun h17 => ?_)
    · have h17b := h17
      try simp only [sxb] at h17
      obtain ⟨q, hq⟩ : ∃ q, b[k]? = some q := ⟨_, List.getElem?_eq_getElem (by omega)⟩
      have hrk : (b.map (fun q => covI p q))[k]? = some (covI p q) := by rw [List.getElem?_map, hq]; rfl
      rw [tryR_drop _ _ k _ us hrk] at hsc
      refine cj_skip (ej_th (cj_seq (cj_block (cj_seq ?_))))
      refine cj_plan 27 (by kernel_rfl) (by kernel_rfl) ?_
      refine pl_y 0 rfl (y_move rfl) rfl rfl rfl rfl (by kernel_rfl) ?_
      refine pl_y 1 rfl (y_move rfl) rfl rfl rfl rfl (by kernel_rfl) ?_
      refine pl_y 2 rfl (y_call Try.call49 rfl (fun w hp => k_Seek us k Au cu w hp.rd)) rfl rfl rfl rfl (by kernel_rfl) ?_
      refine pl_y 3 rfl (y_lss rfl rfl) rfl rfl rfl rfl (by kernel_rfl) ?_
      refine pl_y 4 rfl (y_move rfl) rfl rfl rfl rfl (by kernel_rfl) ?_
      refine pl_case 24 rfl (fun hg24 => ?_) (fun hg24 => ?_)
      · refine pl_yY 5 rfl rfl rfl rfl hg24 (y_move rfl) rfl rfl rfl (by kernel_rfl) ?_
        refine pl_yY 6 rfl rfl rfl rfl hg24 (y_move rfl) rfl rfl rfl (by kernel_rfl) ?_
        refine pl_yY 7 rfl rfl rfl rfl hg24 (y_ixR (reads_sl) Try.underlying24 Try.sizeOf26 rfl rfl (⟨by omega, by omega⟩)) rfl rfl rfl (by kernel_rfl) ?_
        refine pl_yY 8 rfl rfl rfl rfl hg24 (y_ldW (reads_sl) Try.isAgg26 Try.sizeOf26 rfl (hx) (fun _ => rfl)) rfl rfl rfl (by kernel_rfl) ?_
        refine pl_yY 9 rfl rfl rfl rfl hg24 (y_move rfl) rfl rfl rfl (by kernel_rfl) ?_
        refine pl_yY 10 rfl rfl rfl rfl hg24 (y_move rfl) rfl rfl rfl (by kernel_rfl) ?_
        refine pl_yY 11 rfl rfl rfl rfl hg24 (y_ixR (reads_sl) Try.underlying24 Try.sizeOf26 rfl rfl (⟨by omega, by omega⟩)) rfl rfl rfl (by kernel_rfl) ?_
        refine pl_yY 12 rfl rfl rfl rfl hg24 (y_ldW (reads_sl) Try.isAgg26 Try.sizeOf26 rfl (hq) (fun _ => rfl)) rfl rfl rfl (by kernel_rfl) ?_
        refine pl_yY 13 rfl rfl rfl rfl hg24 (y_call Try.call52 rfl (fun w hp => ihc p (List.mem_of_getElem? hx) q (List.mem_of_getElem? hq) w hp.below)) rfl rfl rfl (by kernel_rfl) ?_
        refine pl_y 14 rfl (y_pickT rfl hg24 rfl) rfl rfl rfl rfl (by kernel_rfl) ?_
        refine pl_y 15 rfl (y_move rfl) rfl rfl rfl rfl (by kernel_rfl) ?_
        refine pl_case 35 rfl (fun hg35 => ?_) (fun hg35 => ?_)
        · refine pl_yY 16 rfl rfl rfl rfl hg35 (y_move rfl) rfl rfl rfl (by kernel_rfl) ?_
          refine pl_yY 17 rfl rfl rfl rfl hg35 (y_move rfl) rfl rfl rfl (by kernel_rfl) ?_
          refine pl_yY 18 rfl rfl rfl rfl hg35 (y_move rfl) rfl rfl rfl (by kernel_rfl) ?_
          refine pl_yY 19 rfl rfl rfl rfl hg35 (y_add rfl rfl (by omega)) rfl rfl rfl (by kernel_rfl) ?_
          refine pl_yY 20 rfl rfl rfl rfl hg35 (y_move rfl) rfl rfl rfl (by kernel_rfl) ?_
          refine pl_yY 22 rfl rfl rfl rfl hg35 (y_move rfl) rfl rfl rfl (by kernel_rfl) ?_
          refine pl_w2 21 23 (by kernel_rfl) rfl rfl (pl_fireG rfl rfl rfl rfl hg35 rfl (by kernel_rfl) ?_) (pl_fireG rfl rfl rfl rfl hg35 rfl (by kernel_rfl) ?_)
          · refine oj_yesE rfl rfl rfl hg35 ?_
            refine oj_callO (fun A c => .slice A us.length c) 3 1 enInt us Try.call116 rfl (fun w hp => k_Own us Au cu w hp.rd (by omega)) rfl (fun A41 c41 => ?_)
            refine oj_nil ?_
            refine ej_pl (lt_yY rfl rfl rfl hg35 (y_move rfl) (lt_w (by kernel_rfl) (lt_yY rfl rfl rfl hg35 (y_add rfl rfl (by omega)) (lt_yY rfl rfl rfl hg35 (y_move rfl) (lt_yY rfl rfl rfl hg35 (y_move rfl) (lt_yY rfl rfl rfl hg35 (y_move rfl) (lt_w (by kernel_rfl) (lt_y (y_pickT rfl hg24 rfl) rfl (lt_yY rfl rfl rfl hg24 (y_call Try.call52 rfl (fun w hp => ihc p (List.mem_of_getElem? hx) q (List.mem_of_getElem? hq) w hp.below)) (lt_yY rfl rfl rfl hg24 (y_ldW (reads_sl) Try.isAgg26 Try.sizeOf26 rfl (hq) (fun _ => rfl)) (lt_yY rfl rfl rfl hg24 (y_ixR (reads_sl) Try.underlying24 Try.sizeOf26 rfl rfl (⟨by omega, by omega⟩)) (lt_yY rfl rfl rfl hg24 (y_move rfl) (lt_yY rfl rfl rfl hg24 (y_move rfl) (lt_yY rfl rfl rfl hg24 (y_ldW (reads_sl) Try.isAgg26 Try.sizeOf26 rfl (hx) (fun _ => rfl)) (lt_yY rfl rfl rfl hg24 (y_ixR (reads_sl) Try.underlying24 Try.sizeOf26 rfl rfl (⟨by omega, by omega⟩)) (lt_yY rfl rfl rfl hg24 (y_move rfl) (lt_yY rfl rfl rfl hg24 (y_move rfl) (lt_y (y_move rfl) rfl (lt_y (y_lss rfl rfl) rfl (lt_y (y_call Try.call49 rfl (fun w hp => k_Seek us k Au cu w hp.rd)) rfl (lt_y (y_move rfl) rfl (lt_y (y_move rfl) rfl (lt_nil))))))))))))))))))))))) ?_
            refine pl_w1 23 (by kernel_rfl) rfl rfl (pl_fireG rfl rfl rfl rfl hg35 rfl (by kernel_rfl) ?_)
            refine oj_yesE rfl rfl rfl hg35 ?_
            refine oj_buildSlice (cs := [.int .i64 (k : Int)]) [.int .i64 0] Try.underlying37 Try.sizeOf3 Try.zeroValue3 rfl rfl (by kernel_rfl) (by kernel_rfl) rfl (fun b43 => ?_)
            refine oj_nil ?_
            refine ej_pl (lt_w (by kernel_rfl) (lt_yY rfl rfl rfl hg35 (y_move rfl) (lt_yY rfl rfl rfl hg35 (y_add rfl rfl (by omega)) (lt_yY rfl rfl rfl hg35 (y_move rfl) (lt_yY rfl rfl rfl hg35 (y_move rfl) (lt_yY rfl rfl rfl hg35 (y_move rfl) (lt_w (by kernel_rfl) (lt_y (y_pickT rfl hg24 rfl) rfl (lt_yY rfl rfl rfl hg24 (y_call Try.call52 rfl (fun w hp => ihc p (List.mem_of_getElem? hx) q (List.mem_of_getElem? hq) w hp.below)) (lt_yY rfl rfl rfl hg24 (y_ldW (reads_sl) Try.isAgg26 Try.sizeOf26 rfl (hq) (fun _ => rfl)) (lt_yY rfl rfl rfl hg24 (y_ixR (reads_sl) Try.underlying24 Try.sizeOf26 rfl rfl (⟨by omega, by omega⟩)) (lt_yY rfl rfl rfl hg24 (y_move rfl) (lt_yY rfl rfl rfl hg24 (y_move rfl) (lt_yY rfl rfl rfl hg24 (y_ldW (reads_sl) Try.isAgg26 Try.sizeOf26 rfl (hx) (fun _ => rfl)) (lt_yY rfl rfl rfl hg24 (y_ixR (reads_sl) Try.underlying24 Try.sizeOf26 rfl rfl (⟨by omega, by omega⟩)) (lt_yY rfl rfl rfl hg24 (y_move rfl) (lt_yY rfl rfl rfl hg24 (y_move rfl) (lt_y (y_move rfl) rfl (lt_y (y_lss rfl rfl) rfl (lt_y (y_call Try.call49 rfl (fun w hp => k_Seek us k Au cu w hp.rd)) rfl (lt_y (y_move rfl) rfl (lt_y (y_move rfl) rfl (lt_nil))))))))))))))))))))))) ?_
            refine pl_w1 24 (by kernel_rfl) rfl rfl (pl_fireG rfl rfl rfl rfl hg35 rfl (by kernel_rfl) ?_)
            refine oj_yesE rfl rfl rfl hg35 ?_
            refine oj_append  el37 (fun _ => rfl) enInt_one rfl rfl rfl (reads_lit [(k : Int)] (fun _ => rfl) rfl) (by unfold maxLen; simp only [List.length_cons, List.length_nil]; omega) (by simp only [List.length_cons, List.length_nil]; omega) rfl (fun A44 c44 => ?_)
            refine oj_nil ?_
            refine ej_pl (lt_yY rfl rfl rfl hg35 (y_move rfl) (lt_yY rfl rfl rfl hg35 (y_move rfl) (lt_yY rfl rfl rfl hg35 (y_add rfl rfl (by omega)) (lt_yY rfl rfl rfl hg35 (y_move rfl) (lt_yY rfl rfl rfl hg35 (y_move rfl) (lt_yY rfl rfl rfl hg35 (y_move rfl) (lt_w (by kernel_rfl) (lt_y (y_pickT rfl hg24 rfl) rfl (lt_yY rfl rfl rfl hg24 (y_call Try.call52 rfl (fun w hp => ihc p (List.mem_of_getElem? hx) q (List.mem_of_getElem? hq) w hp.below)) (lt_yY rfl rfl rfl hg24 (y_ldW (reads_sl) Try.isAgg26 Try.sizeOf26 rfl (hq) (fun _ => rfl)) (lt_yY rfl rfl rfl hg24 (y_ixR (reads_sl) Try.underlying24 Try.sizeOf26 rfl rfl (⟨by omega, by omega⟩)) (lt_yY rfl rfl rfl hg24 (y_move rfl) (lt_yY rfl rfl rfl hg24 (y_move rfl) (lt_yY rfl rfl rfl hg24 (y_ldW (reads_sl) Try.isAgg26 Try.sizeOf26 rfl (hx) (fun _ => rfl)) (lt_yY rfl rfl rfl hg24 (y_ixR (reads_sl) Try.underlying24 Try.sizeOf26 rfl rfl (⟨by omega, by omega⟩)) (lt_yY rfl rfl rfl hg24 (y_move rfl) (lt_yY rfl rfl rfl hg24 (y_move rfl) (lt_y (y_move rfl) rfl (lt_y (y_lss rfl rfl) rfl (lt_y (y_call Try.call49 rfl (fun w hp => k_Seek us k Au cu w hp.rd)) rfl (lt_y (y_move rfl) rfl (lt_y (y_move rfl) rfl (lt_nil))))))))))))))))))))))) ?_
            refine pl_yY 25 rfl rfl rfl rfl hg35 (y_call Try.call93 rfl (fun w hp => ihf (us ++ [(k : Int)]) A44 c44 w (by omega) hp.below (hp.rdO (A := A44) (fun _ => rfl) (by unfold maxLen; simp only [List.length_append, List.length_cons, List.length_nil]; omega)) (by simp only [List.length_append, List.length_cons, List.length_nil]; omega))) rfl rfl rfl (by kernel_rfl) ?_
            refine pl_y 26 rfl (y_pickT rfl hg35 rfl) rfl rfl rfl rfl (by kernel_rfl) ?_
            refine pl_end (by kernel_rfl) ?_
            refine ej_th ?_
            refine cj_cond rfl (fun h46 => ?_) (fun h46 => ?_)
            · have h46b := h46
              try simp only [sxb] at h46
              refine cj_seq ?_
              refine cj_regionG (gj_step (y_assign rfl) rfl rfl rfl (gj_nil ?_))
              refine ej_th (cj_ret (ej_blk_ret (ej_then_ret (ej_then_ret (ej_blk_ret (ej_then_ret ?_))))))
              rw [hg24, hg35, h46b] at hsc
              exact ej_ret1 rfl Try.results93 rfl (fun w' hp => ⟨by rw [← hsc]; rfl, hp.below⟩)
            · have h46b := h46
              try simp only [sxb] at h46
              have hz : ((decide (seek us k 0 < 0) && covI p q) && asR (covRows (a.drop (i + 1)) b) (us ++ [(k : Int)])) = false := by first | (simp only [hg24, Bool.false_and]; done) | (simp only [hg24, hg35, Bool.and_false, Bool.true_and, Bool.false_and]; done) | (simp only [hg24, hg35, h46b, Bool.and_false])
              have hsn := or_step hsc hz
              refine cj_skip (ej_blk (ej_th ?_))
              refine cj_regionG (gj_step (y_move rfl) rfl rfl rfl (gj_step (y_add rfl rfl (by omega)) rfl rfl rfl (gj_step (y_assign rfl) rfl rfl rfl (gj_nil ?_))))
              exact ej_nx (k + 1) (by omega) ⟨by omega, hsn⟩ ⟨rfl, rfl, rfl, rfl, rfl, trivial⟩
          · refine oj_yesE rfl rfl rfl hg35 ?_
            refine oj_buildSlice (cs := [.int .i64 (k : Int)]) [.int .i64 0] Try.underlying37 Try.sizeOf3 Try.zeroValue3 rfl rfl (by kernel_rfl) (by kernel_rfl) rfl (fun b43 => ?_)
            refine oj_nil ?_
            refine ej_pl (lt_w (by kernel_rfl) (lt_yY rfl rfl rfl hg35 (y_move rfl) (lt_yY rfl rfl rfl hg35 (y_add rfl rfl (by omega)) (lt_yY rfl rfl rfl hg35 (y_move rfl) (lt_yY rfl rfl rfl hg35 (y_move rfl) (lt_yY rfl rfl rfl hg35 (y_move rfl) (lt_w (by kernel_rfl) (lt_y (y_pickT rfl hg24 rfl) rfl (lt_yY rfl rfl rfl hg24 (y_call Try.call52 rfl (fun w hp => ihc p (List.mem_of_getElem? hx) q (List.mem_of_getElem? hq) w hp.below)) (lt_yY rfl rfl rfl hg24 (y_ldW (reads_sl) Try.isAgg26 Try.sizeOf26 rfl (hq) (fun _ => rfl)) (lt_yY rfl rfl rfl hg24 (y_ixR (reads_sl) Try.underlying24 Try.sizeOf26 rfl rfl (⟨by omega, by omega⟩)) (lt_yY rfl rfl rfl hg24 (y_move rfl) (lt_yY rfl rfl rfl hg24 (y_move rfl) (lt_yY rfl rfl rfl hg24 (y_ldW (reads_sl) Try.isAgg26 Try.sizeOf26 rfl (hx) (fun _ => rfl)) (lt_yY rfl rfl rfl hg24 (y_ixR (reads_sl) Try.underlying24 Try.sizeOf26 rfl rfl (⟨by omega, by omega⟩)) (lt_yY rfl rfl rfl hg24 (y_move rfl) (lt_yY rfl rfl rfl hg24 (y_move rfl) (lt_y (y_move rfl) rfl (lt_y (y_lss rfl rfl) rfl (lt_y (y_call Try.call49 rfl (fun w hp => k_Seek us k Au cu w hp.rd)) rfl (lt_y (y_move rfl) rfl (lt_y (y_move rfl) rfl (lt_nil))))))))))))))))))))))) ?_
            refine pl_w1 21 (by kernel_rfl) rfl rfl (pl_fireG rfl rfl rfl rfl hg35 rfl (by kernel_rfl) ?_)
            refine oj_yesE rfl rfl rfl hg35 ?_
            refine oj_callO (fun A c => .slice A us.length c) 3 1 enInt us Try.call116 rfl (fun w hp => k_Own us Au cu w hp.rd (by omega)) rfl (fun A41 c41 => ?_)
            refine oj_nil ?_
            refine ej_pl (lt_yY rfl rfl rfl hg35 (y_move rfl) (lt_w (by kernel_rfl) (lt_yY rfl rfl rfl hg35 (y_add rfl rfl (by omega)) (lt_yY rfl rfl rfl hg35 (y_move rfl) (lt_yY rfl rfl rfl hg35 (y_move rfl) (lt_yY rfl rfl rfl hg35 (y_move rfl) (lt_w (by kernel_rfl) (lt_y (y_pickT rfl hg24 rfl) rfl (lt_yY rfl rfl rfl hg24 (y_call Try.call52 rfl (fun w hp => ihc p (List.mem_of_getElem? hx) q (List.mem_of_getElem? hq) w hp.below)) (lt_yY rfl rfl rfl hg24 (y_ldW (reads_sl) Try.isAgg26 Try.sizeOf26 rfl (hq) (fun _ => rfl)) (lt_yY rfl rfl rfl hg24 (y_ixR (reads_sl) Try.underlying24 Try.sizeOf26 rfl rfl (⟨by omega, by omega⟩)) (lt_yY rfl rfl rfl hg24 (y_move rfl) (lt_yY rfl rfl rfl hg24 (y_move rfl) (lt_yY rfl rfl rfl hg24 (y_ldW (reads_sl) Try.isAgg26 Try.sizeOf26 rfl (hx) (fun _ => rfl)) (lt_yY rfl rfl rfl hg24 (y_ixR (reads_sl) Try.underlying24 Try.sizeOf26 rfl rfl (⟨by omega, by omega⟩)) (lt_yY rfl rfl rfl hg24 (y_move rfl) (lt_yY rfl rfl rfl hg24 (y_move rfl) (lt_y (y_move rfl) rfl (lt_y (y_lss rfl rfl) rfl (lt_y (y_call Try.call49 rfl (fun w hp => k_Seek us k Au cu w hp.rd)) rfl (lt_y (y_move rfl) rfl (lt_y (y_move rfl) rfl (lt_nil))))))))))))))))))))))) ?_
            refine pl_w1 24 (by kernel_rfl) rfl rfl (pl_fireG rfl rfl rfl rfl hg35 rfl (by kernel_rfl) ?_)
            refine oj_yesE rfl rfl rfl hg35 ?_
            refine oj_append  el37 (fun _ => rfl) enInt_one rfl rfl rfl (reads_lit [(k : Int)] (fun _ => rfl) rfl) (by unfold maxLen; simp only [List.length_cons, List.length_nil]; omega) (by simp only [List.length_cons, List.length_nil]; omega) rfl (fun A44 c44 => ?_)
            refine oj_nil ?_
            refine ej_pl (lt_yY rfl rfl rfl hg35 (y_move rfl) (lt_yY rfl rfl rfl hg35 (y_move rfl) (lt_yY rfl rfl rfl hg35 (y_add rfl rfl (by omega)) (lt_yY rfl rfl rfl hg35 (y_move rfl) (lt_yY rfl rfl rfl hg35 (y_move rfl) (lt_yY rfl rfl rfl hg35 (y_move rfl) (lt_w (by kernel_rfl) (lt_y (y_pickT rfl hg24 rfl) rfl (lt_yY rfl rfl rfl hg24 (y_call Try.call52 rfl (fun w hp => ihc p (List.mem_of_getElem? hx) q (List.mem_of_getElem? hq) w hp.below)) (lt_yY rfl rfl rfl hg24 (y_ldW (reads_sl) Try.isAgg26 Try.sizeOf26 rfl (hq) (fun _ => rfl)) (lt_yY rfl rfl rfl hg24 (y_ixR (reads_sl) Try.underlying24 Try.sizeOf26 rfl rfl (⟨by omega, by omega⟩)) (lt_yY rfl rfl rfl hg24 (y_move rfl) (lt_yY rfl rfl rfl hg24 (y_move rfl) (lt_yY rfl rfl rfl hg24 (y_ldW (reads_sl) Try.isAgg26 Try.sizeOf26 rfl (hx) (fun _ => rfl)) (lt_yY rfl rfl rfl hg24 (y_ixR (reads_sl) Try.underlying24 Try.sizeOf26 rfl rfl (⟨by omega, by omega⟩)) (lt_yY rfl rfl rfl hg24 (y_move rfl) (lt_yY rfl rfl rfl hg24 (y_move rfl) (lt_y (y_move rfl) rfl (lt_y (y_lss rfl rfl) rfl (lt_y (y_call Try.call49 rfl (fun w hp => k_Seek us k Au cu w hp.rd)) rfl (lt_y (y_move rfl) rfl (lt_y (y_move rfl) rfl (lt_nil))))))))))))))))))))))) ?_
            refine pl_yY 25 rfl rfl rfl rfl hg35 (y_call Try.call93 rfl (fun w hp => ihf (us ++ [(k : Int)]) A44 c44 w (by omega) hp.below (hp.rdO (A := A44) (fun _ => rfl) (by unfold maxLen; simp only [List.length_append, List.length_cons, List.length_nil]; omega)) (by simp only [List.length_append, List.length_cons, List.length_nil]; omega))) rfl rfl rfl (by kernel_rfl) ?_
            refine pl_y 26 rfl (y_pickT rfl hg35 rfl) rfl rfl rfl rfl (by kernel_rfl) ?_
            refine pl_end (by kernel_rfl) ?_
            refine ej_th ?_
            refine cj_cond rfl (fun h46 => ?_) (fun h46 => ?_)
            · have h46b := h46
              try simp only [sxb] at h46
              refine cj_seq ?_
              refine cj_regionG (gj_step (y_assign rfl) rfl rfl rfl (gj_nil ?_))
              refine ej_th (cj_ret (ej_blk_ret (ej_then_ret (ej_then_ret (ej_blk_ret (ej_then_ret ?_))))))
              rw [hg24, hg35, h46b] at hsc
              exact ej_ret1 rfl Try.results93 rfl (fun w' hp => ⟨by rw [← hsc]; rfl, hp.below⟩)
            · have h46b := h46
              try simp only [sxb] at h46
              have hz : ((decide (seek us k 0 < 0) && covI p q) && asR (covRows (a.drop (i + 1)) b) (us ++ [(k : Int)])) = false := by first | (simp only [hg24, Bool.false_and]; done) | (simp only [hg24, hg35, Bool.and_false, Bool.true_and, Bool.false_and]; done) | (simp only [hg24, hg35, h46b, Bool.and_false])
              have hsn := or_step hsc hz
              refine cj_skip (ej_blk (ej_th ?_))
              refine cj_regionG (gj_step (y_move rfl) rfl rfl rfl (gj_step (y_add rfl rfl (by omega)) rfl rfl rfl (gj_step (y_assign rfl) rfl rfl rfl (gj_nil ?_))))
              exact ej_nx (k + 1) (by omega) ⟨by omega, hsn⟩ ⟨rfl, rfl, rfl, rfl, rfl, trivial⟩
        · refine pl_yN 16 rfl rfl rfl rfl hg35 rfl rfl rfl (by kernel_rfl) ?_
          refine pl_yN 17 rfl rfl rfl rfl hg35 rfl rfl rfl (by kernel_rfl) ?_
          refine pl_yN 18 rfl rfl rfl rfl hg35 rfl rfl rfl (by kernel_rfl) ?_
          refine pl_yN 19 rfl rfl rfl rfl hg35 rfl rfl rfl (by kernel_rfl) ?_
          refine pl_yN 20 rfl rfl rfl rfl hg35 rfl rfl rfl (by kernel_rfl) ?_
          refine pl_yN 21 rfl rfl rfl rfl hg35 rfl rfl rfl (by kernel_rfl) ?_
          refine pl_yN 22 rfl rfl rfl rfl hg35 rfl rfl rfl (by kernel_rfl) ?_
          refine pl_yN 23 rfl rfl rfl rfl hg35 rfl rfl rfl (by kernel_rfl) ?_
          refine pl_yN 24 rfl rfl rfl rfl hg35 rfl rfl rfl (by kernel_rfl) ?_
          refine pl_yN 25 rfl rfl rfl rfl hg35 rfl rfl rfl (by kernel_rfl) ?_
          refine pl_y 26 rfl (y_pickF rfl hg35 rfl) rfl rfl rfl rfl (by kernel_rfl) ?_
          refine pl_end (by kernel_rfl) ?_
          refine ej_th ?_
          refine cj_cond rfl (fun h46 => ?_) (fun h46 => ?_)
          · cases h46
          · have h46b := h46
            try simp only [sxb] at h46
            have hz : ((decide (seek us k 0 < 0) && covI p q) && asR (covRows (a.drop (i + 1)) b) (us ++ [(k : Int)])) = false := by first | (simp only [hg24, Bool.false_and]; done) | (simp only [hg24, hg35, Bool.and_false, Bool.true_and, Bool.false_and]; done) | (simp only [hg24, hg35, h46b, Bool.and_false])
            have hsn := or_step hsc hz
            refine cj_skip (ej_blk (ej_th ?_))
            refine cj_regionG (gj_step (y_move rfl) rfl rfl rfl (gj_step (y_add rfl rfl (by omega)) rfl rfl rfl (gj_step (y_assign rfl) rfl rfl rfl (gj_nil ?_))))
            exact ej_nx (k + 1) (by omega) ⟨by omega, hsn⟩ ⟨rfl, rfl, rfl, rfl, rfl, trivial⟩
      · refine pl_yN 5 rfl rfl rfl rfl hg24 rfl rfl rfl (by kernel_rfl) ?_
        refine pl_yN 6 rfl rfl rfl rfl hg24 rfl rfl rfl (by kernel_rfl) ?_
        refine pl_yN 7 rfl rfl rfl rfl hg24 rfl rfl rfl (by kernel_rfl) ?_
        refine pl_yN 8 rfl rfl rfl rfl hg24 rfl rfl rfl (by kernel_rfl) ?_
        refine pl_yN 9 rfl rfl rfl rfl hg24 rfl rfl rfl (by kernel_rfl) ?_
        refine pl_yN 10 rfl rfl rfl rfl hg24 rfl rfl rfl (by kernel_rfl) ?_
        refine pl_yN 11 rfl rfl rfl rfl hg24 rfl rfl rfl (by kernel_rfl) ?_
        refine pl_yN 12 rfl rfl rfl rfl hg24 rfl rfl rfl (by kernel_rfl) ?_
        refine pl_yN 13 rfl rfl rfl rfl hg24 rfl rfl rfl (by kernel_rfl) ?_
        refine pl_y 14 rfl (y_pickF rfl hg24 rfl) rfl rfl rfl rfl (by kernel_rfl) ?_
        refine pl_y 15 rfl (y_move rfl) rfl rfl rfl rfl (by kernel_rfl) ?_
        refine pl_yN 16 rfl rfl rfl rfl rfl rfl rfl rfl (by kernel_rfl) ?_
        refine pl_yN 17 rfl rfl rfl rfl rfl rfl rfl rfl (by kernel_rfl) ?_
        refine pl_yN 18 rfl rfl rfl rfl rfl rfl rfl rfl (by kernel_rfl) ?_
        refine pl_yN 19 rfl rfl rfl rfl rfl rfl rfl rfl (by kernel_rfl) ?_
        refine pl_yN 20 rfl rfl rfl rfl rfl rfl rfl rfl (by kernel_rfl) ?_
        refine pl_yN 21 rfl rfl rfl rfl rfl rfl rfl rfl (by kernel_rfl) ?_
        refine pl_yN 22 rfl rfl rfl rfl rfl rfl rfl rfl (by kernel_rfl) ?_
        refine pl_yN 23 rfl rfl rfl rfl rfl rfl rfl rfl (by kernel_rfl) ?_
        refine pl_yN 24 rfl rfl rfl rfl rfl rfl rfl rfl (by kernel_rfl) ?_
        refine pl_yN 25 rfl rfl rfl rfl rfl rfl rfl rfl (by kernel_rfl) ?_
        refine pl_y 26 rfl (y_pickF rfl rfl rfl) rfl rfl rfl rfl (by kernel_rfl) ?_
        refine pl_end (by kernel_rfl) ?_
        refine ej_th ?_
        refine cj_cond rfl (fun h46 => ?_) (fun h46 => ?_)
        · cases h46
        · have h46b := h46
          try simp only [sxb] at h46
          have hz : ((decide (seek us k 0 < 0) && covI p q) && asR (covRows (a.drop (i + 1)) b) (us ++ [(k : Int)])) = false := by first | (simp only [hg24, Bool.false_and]; done) | (simp only [hg24, hg35, Bool.and_false, Bool.true_and, Bool.false_and]; done) | (simp only [hg24, hg35, h46b, Bool.and_false])
          have hsn := or_step hsc hz
          refine cj_skip (ej_blk (ej_th ?_))
          refine cj_regionG (gj_step (y_move rfl) rfl rfl rfl (gj_step (y_add rfl rfl (by omega)) rfl rfl rfl (gj_step (y_assign rfl) rfl rfl rfl (gj_nil ?_))))
          exact ej_nx (k + 1) (by omega) ⟨by omega, hsn⟩ ⟨rfl, rfl, rfl, rfl, rfl, trivial⟩
    · have h17b := h17
      try simp only [sxb] at h17
      refine cj_exit (ej_then_exit (ej_then_exit (ej_blk_hit (ej_th (cj_seq ?_)))))
      refine cj_regionG (gj_step (y_assign rfl) rfl rfl rfl (gj_nil ?_))
      refine ej_th (cj_ret ?_)
      refine ej_ret1 rfl Try.results93 rfl (fun w' hp => ⟨?_, hp.below⟩)
      rw [← hsc, List.drop_of_length_le (show (b.map (fun q => covI p q)).length ≤ k by rw [List.length_map]; omega)]; rfl

theorem k_asgnA (a b : List ItemV) (Aa Ab : Option Addr) (ca cb : Nat) (w0 : World) (ha : Rd w0 3 encIt Aa a) (hb : Rd w0 3 encIt Ab b) (ha24 : a.length ≤ 24) (hb24 : b.length ≤ 24) (ihc : ∀ p ∈ a, ∀ q ∈ b, ∀ w1, Grow w0 w1 → Calls Try.prog 52 #[evI p, evI q] w1 (fun e w' => e = .returned (.bool (covI p q)) ∧ Grow w1 w')) : ∀ (n i : Nat) (us : List Int) (Au : Option Addr) (cu : Nat) (w : World), a.length - i = n → i ≤ a.length → us.length ≤ i → Grow w0 w → Rd w 1 enInt Au us → Calls Try.prog 93 #[.slice Aa a.length ca, .slice Ab b.length cb, .int .i64 (i : Nat), .slice Au us.length cu] w (fun e w' => e = .returned (.bool (asR (covRows (a.drop i) b) us)) ∧ Grow w w') := by
  intro n
  induction n with
  | zero =>
    intro i us Au cu w hn hi hul hg hu
    exact k_asgn1 a b Aa Ab ca cb i us Au cu w (ha.mono hg) (hb.mono hg) ha24 hb24 hu hul hi (fun p hp q hq w1 hg1 => ihc p hp q hq w1 (grow_trans hg hg1)) (fun vs Av cv w1 hlt _ _ _ => absurd hlt (by omega))
  | succ n ih =>
    intro i us Au cu w hn hi hul hg hu
    exact k_asgn1 a b Aa Ab ca cb i us Au cu w (ha.mono hg) (hb.mono hg) ha24 hb24 hu hul hi (fun p hp q hq w1 hg1 => ihc p hp q hq w1 (grow_trans hg hg1)) (fun vs Av cv w1 hlt hg1 hv hvl => by have h := ih (i + 1) vs Av cv w1 (by omega) (by omega) hvl (grow_trans hg hg1) hv; exact h)

theorem k_rcov1 (a b : ItemV) (g : List (ByteArray × ClassV)) (w : World) (hga : GoodI w a) (hgb : GoodI w b) (hoa : OkG g a) (hob : OkG g b) (ihc : ∀ p ∈ a.parts, ∀ q ∈ b.parts, ∀ w1, Grow w w1 → Calls Try.prog 52 #[evI p, evI q] w1 (fun e w' => e = .returned (.bool (covI p q)) ∧ Grow w1 w')) : Calls Try.prog 52 #[evI a, evI b] w (fun e w' => e = .returned (.bool (covI a b)) ∧ Grow w w') := by
  have hl1 := hga.rs.len
  have hl2 := hgb.rs.len
  have hf := hob.few
  have hf2 := hoa.few
  refine enter_pure (args := [evI a, evI b]) [] Try.func52 rfl (by rw [Try.ntmps52]; simp) (by simp) ?_
  refine cj_seq (cj_region ?_)
  refine oj_box rfl rfl rfl (fun b2 => ?_)
  refine oj_box rfl rfl rfl (fun b3 => ?_)
  refine oj_step (y_assign rfl) rfl rfl rfl ?_
  refine oj_nil ?_
  refine ej_th (cj_seq (cj_seq ?_))
  refine cj_regionG (gj_step (y_fa0 fa26_0 rfl) rfl rfl rfl (gj_step (y_load1 Try.isAgg9 rfl rfl) rfl rfl rfl (gj_step (y_fa0 fa26_0 rfl) rfl rfl rfl (gj_step (y_load1 Try.isAgg9 rfl rfl) rfl rfl rfl (gj_step (y_neqS rfl rfl) rfl rfl rfl (gj_nil ?_))))))
  refine ej_th ?_
  refine cj_cond rfl (fun h10 => ?_) (fun h10 => ?_)
  · have h10b := h10
    try simp only [sxb] at h10
    have hce := bytes_ne (not_t h10b)
    refine cj_seq ?_
    refine cj_regionG (gj_step (y_assign rfl) rfl rfl rfl (gj_nil ?_))
    refine ej_th (cj_ret (ej_then_ret ?_))
    exact ej_ret1 rfl Try.results52 rfl (fun w' hp => ⟨by rw [covI_ref, decide_eq_false hce]; rfl, hp.below⟩)
  · have h10b := h10
    try simp only [sxb] at h10
    have hce := bytes_eq (not_f h10b)
    have hsl := hoa.says hob hce
    refine cj_rd hga.rs (fun _ h => h) ?_
    refine cj_rd hgb.rs (fun _ h => h) ?_
    refine cj_skip (ej_th (cj_seq (cj_seq ?_)))
    refine cj_regionG (gj_step (y_assign rfl) rfl rfl rfl (gj_nil ?_))
    refine ej_th (cj_block ?_)
    refine cj_lpic (X := Nat) [(2, _), (3, _)] (fun k => k ≤ a.says.length ∧ saysCov (a.says.drop k) (b.says.drop k) = saysCov a.says b.says) (fun k => [(5, .int .i64 k)]) (fun k => a.says.length - k) 0 (⟨Nat.zero_le _, rfl⟩) ⟨rfl, rfl, rfl, trivial⟩ ?_
    rintro k ⟨hk, hsc⟩
    dsimp only [List.cons_append, List.nil_append]
    refine cj_seq (cj_seq ?_)
    refine cj_regionG (gj_step (y_move rfl) rfl rfl rfl (gj_step (y_fa fa26_1 rfl) rfl rfl rfl (gj_step (y_load1 Try.isAgg23 rfl rfl) rfl rfl rfl (gj_step (y_lenA Try.underlying23 rfl) rfl rfl rfl (gj_step (y_lss rfl rfl) rfl rfl rfl (gj_nil ?_))))))
    refine ej_th ?_
    refine cj_cond rfl (fun h15 => ?_) (fun h15 => ?_)
    · have h15b := h15
      try simp only [sxb] at h15
      obtain ⟨s, hs⟩ : ∃ s, a.says[k]? = some s := ⟨_, List.getElem?_eq_getElem (by omega)⟩
      obtain ⟨t, ht⟩ : ∃ t, b.says[k]? = some t := ⟨_, List.getElem?_eq_getElem (by omega)⟩
      rw [saysCov_drop _ _ k s t hs ht] at hsc
      refine cj_skip (ej_th (cj_seq (cj_block (cj_seq ?_))))
      refine cj_draw (by kernel_rfl) (by kernel_rfl) (gj_step (y_fa fa26_1 rfl) rfl rfl rfl (gj_step (y_load1 Try.isAgg23 rfl rfl) rfl rfl rfl (gj_step (y_move rfl) rfl rfl rfl (gj_step (y_ixR (reads_sl) Try.underlying23 Try.sizeOf9 rfl rfl (⟨by omega, by omega⟩)) rfl rfl rfl (gj_step (y_ld0 (reads_sl) Try.isAgg9 rfl (hs) rfl) rfl rfl rfl (gj_step (y_neqS rfl rfl) rfl rfl rfl (gj_step (y_move rfl) rfl rfl rfl (gj_g 11 24 35 rfl rfl rfl rfl (fun hg24 => gj_yes rfl rfl rfl (y_fa fa26_1 rfl) rfl rfl (gj_yes rfl rfl rfl (y_load1 Try.isAgg23 rfl rfl) rfl rfl (gj_yes rfl rfl rfl (y_move rfl) rfl rfl (gj_yes rfl rfl rfl (y_ixR (reads_sl) Try.underlying23 Try.sizeOf9 rfl rfl (⟨by omega, by omega⟩)) rfl rfl (gj_yes rfl rfl rfl (y_ld0 (reads_sl) Try.isAgg9 rfl (hs) rfl) rfl rfl (gj_yes rfl rfl rfl (y_fa fa26_1 rfl) rfl rfl (gj_yes rfl rfl rfl (y_load1 Try.isAgg23 rfl rfl) rfl rfl (gj_yes rfl rfl rfl (y_move rfl) rfl rfl (gj_yes rfl rfl rfl (y_ixR (reads_sl) Try.underlying23 Try.sizeOf9 rfl rfl (⟨by omega, by omega⟩)) rfl rfl (gj_yes rfl rfl rfl (y_ld0 (reads_sl) Try.isAgg9 rfl (ht) rfl) rfl rfl (gj_yes rfl rfl rfl (y_neqS rfl rfl) rfl rfl (gj_nil rfl)))))))))))) (gj_step (y_and rfl rfl rfl) rfl rfl rfl (gj_nil ?_))))))))))
      refine ej_th ?_
      refine cj_cond rfl (fun h36 => ?_) (fun h36 => ?_)
      · have h36b := h36
        try simp only [sxb] at h36
        refine cj_seq ?_
        refine cj_regionG (gj_step (y_assign rfl) rfl rfl rfl (gj_nil ?_))
        refine ej_th (cj_ret (ej_blk_ret (ej_then_ret (ej_then_ret (ej_blk_ret (ej_then_ret ?_))))))
        exact ej_ret1 rfl Try.results52 rfl (fun w' hp => ⟨by rw [covI_ref, ← hsc, h36b]; simp, hp.below⟩)
      · have h36b := h36
        try simp only [sxb] at h36
        refine cj_skip (ej_blk (ej_th ?_))
        refine cj_regionG (gj_step (y_move rfl) rfl rfl rfl (gj_step (y_add rfl rfl (by omega)) rfl rfl rfl (gj_step (y_assign rfl) rfl rfl rfl (gj_nil ?_))))
        exact ej_nx (k + 1) (by omega) ⟨by omega, by rw [← hsc, h36b]; rfl⟩ ⟨rfl, rfl, rfl, trivial⟩
    · have h15b := h15
      try simp only [sxb] at h15
      refine cj_exit (ej_then_exit (ej_then_exit (ej_blk_hit (ej_th (cj_seq ?_)))))
      refine cj_regionG ?_
      refine gj_step (y_fa fa26_2 rfl) rfl rfl rfl (gj_step (y_load1 Try.isAgg24 rfl rfl) rfl rfl rfl (gj_step (y_fa fa26_2 rfl) rfl rfl rfl (gj_step (y_load1 Try.isAgg24 rfl rfl) rfl rfl rfl (?_))))
      refine gj_step (y_call Try.call93 rfl (fun w hp => by have h := k_asgnA a.parts b.parts a.Ap b.Ap a.cp b.cp _ hga.rp hgb.rp hf2 hf ihc _ 0 [] none 0 w rfl (Nat.zero_le _) (Nat.le_refl _) hp.below Rd.nil; exact h)) rfl rfl rfl ?_
      refine gj_step (y_assign rfl) rfl rfl rfl (?_)
      refine gj_nil ?_
      refine ej_th (cj_ret ?_)
      have hst : saysCov a.says b.says = true := by rw [← hsc, List.drop_of_length_le (show a.says.length ≤ k by omega)]; rfl
      exact ej_ret1 rfl Try.results52 rfl (fun w' hp => ⟨by rw [covI_ref, hst, decide_eq_true hce]; rfl, hp.below⟩)

theorem k_rcov {w0 : World} {g : List (ByteArray × ClassV)} {a : ItemV} (hga : GoodI w0 a) : ∀ (b : ItemV) (w : World), Grow w0 w → GoodI w b → OkG g a → OkG g b → Calls Try.prog 52 #[evI a, evI b] w (fun e w' => e = .returned (.bool (covI a b)) ∧ Grow w w') := by
  induction hga with
  | mk hs hp hn hm hr ih =>
    intro b w hg hgb hoa hob
    exact k_rcov1 _ b g w ((GoodI.mk hs hp hn hm hr).mono hg) hgb hoa hob (fun p hpm q hqm w1 hg1 => ih p hpm q w1 (grow_trans hg hg1) ((hgb.pt q hqm).mono hg1) (hoa.pt p hpm) (hob.pt q hqm))

theorem k_rCovers (l : List ClassV) (A : Option Addr) (c : Nat) (a b : ItemV) (w : World) (hl : Rd w 4 encCl A l) (hgc : ∀ c ∈ l, GoodC w c) (hga : GoodI w a) (hgb : GoodI w b) : Calls Try.prog 14 #[.slice A l.length c, evI a, evI b] w (fun e w' => e = .returned (.tuple #[.bool (CovT l a b), .int .i64 (askIE l [a, b])]) ∧ Grow w w') := by
  refine enter_pure (args := [.slice A l.length c, evI a, evI b]) [sl (fun b => b < w.heap.size) 4 encCl A l] Try.func14 rfl (by rw [Try.ntmps14]; simp) (fun g hg => by simp at hg; subst hg; exact ⟨hl, fun _ h => h⟩) ?_
  refine cj_seq (cj_region ?_)
  refine oj_box rfl rfl rfl (fun b4 => ?_)
  refine oj_box rfl rfl rfl (fun b5 => ?_)
  refine oj_step (y_assign rfl) rfl rfl rfl ?_
  refine oj_step (y_assign rfl) rfl rfl rfl ?_
  refine oj_nil ?_
  refine ej_th (cj_seq (cj_seq ?_))
  refine cj_regionG ?_
  refine gj_step (y_move rfl) rfl rfl rfl (gj_step (y_loadN Try.isAgg26 Try.sizeOf26 rfl) rfl rfl rfl (?_))
  refine gj_step (y_call Try.call44 rfl (fun w hp => k_rCheck l A c a w hp.rd (fun q hq => (hgc q hq).mono hp.below) (hga.mono hp.below))) rfl rfl rfl ?_
  refine gj_step (y_assign rfl) rfl rfl rfl (?_)
  refine gj_nil ?_
  refine ej_th (cj_seq ?_)
  refine cj_regionG (gj_step (y_move rfl) rfl rfl rfl (gj_step (y_neq rfl rfl) rfl rfl rfl (gj_nil ?_)))
  refine ej_th ?_
  refine cj_cond rfl (fun h14 => ?_) (fun h14 => ?_)
  · have h14b := h14
    try simp only [sxb] at h14
    obtain ⟨e1, e2⟩ := ask2_1 b h14b
    refine cj_seq ?_
    refine cj_regionG (gj_step (y_move rfl) rfl rfl rfl (gj_step (y_assign rfl) rfl rfl rfl (gj_step (y_assign rfl) rfl rfl rfl (gj_nil ?_))))
    refine ej_th (cj_ret (ej_then_ret ?_))
    refine ej_ret2 rfl Try.results14 rfl rfl (fun w' hp => ⟨?_, hp.below⟩)
    rw [e1, e2]
  · have h14b := h14
    try simp only [sxb] at h14
    refine cj_skip (ej_th (cj_seq (cj_seq ?_)))
    refine cj_regionG ?_
    refine gj_step (y_move rfl) rfl rfl rfl (gj_step (y_loadN Try.isAgg26 Try.sizeOf26 rfl) rfl rfl rfl (?_))
    refine gj_step (y_call Try.call44 rfl (fun w hp => k_rCheck l A c b w hp.rd (fun q hq => (hgc q hq).mono hp.below) (hgb.mono hp.below))) rfl rfl rfl ?_
    refine gj_step (y_assign rfl) rfl rfl rfl (?_)
    refine gj_nil ?_
    refine ej_th (cj_seq ?_)
    refine cj_regionG (gj_step (y_move rfl) rfl rfl rfl (gj_step (y_neq rfl rfl) rfl rfl rfl (gj_nil ?_)))
    refine ej_th ?_
    refine cj_cond rfl (fun h20 => ?_) (fun h20 => ?_)
    · have h20b := h20
      try simp only [sxb] at h20
      obtain ⟨e1, e2⟩ := ask2_2 h14b h20b
      refine cj_seq ?_
      refine cj_regionG (gj_step (y_move rfl) rfl rfl rfl (gj_step (y_assign rfl) rfl rfl rfl (gj_step (y_assign rfl) rfl rfl rfl (gj_nil ?_))))
      refine ej_th (cj_ret (ej_then_ret ?_))
      refine ej_ret2 rfl Try.results14 rfl rfl (fun w' hp => ⟨?_, hp.below⟩)
      rw [e1, e2]
    · have h20b := h20
      try simp only [sxb] at h20
      obtain ⟨e1, hok⟩ := ask2_3 h14b h20b
      have hoa := ask_okG hok a (by simp)
      have hob := ask_okG hok b (by simp)
      refine cj_skip (ej_th (cj_seq ?_))
      refine cj_regionG ?_
      refine gj_step (y_loadN Try.isAgg26 Try.sizeOf26 rfl) rfl rfl rfl (gj_step (y_loadN Try.isAgg26 Try.sizeOf26 rfl) rfl rfl rfl (?_))
      refine gj_step (y_call Try.call52 rfl (fun w hp => by have h := k_rcov hga b w hp.below (hgb.mono hp.below) hoa hob; exact h)) rfl rfl rfl ?_
      refine gj_step (y_assign rfl) rfl rfl rfl (gj_step (y_assign rfl) rfl rfl rfl (?_))
      refine gj_nil ?_
      refine ej_th (cj_ret ?_)
      refine ej_ret2 rfl Try.results14 rfl rfl (fun w' hp => ⟨?_, hp.below⟩)
      rw [e1, CovT, hok]; rfl

end Go.Proofs.Ytlfbghkcfmcnlaa
namespace Go.Proofs.Ytlfbghkcfmcnlaa
open Go.Sx Go.RowKit
set_option maxRecDepth 20000

end Go.Proofs.Ytlfbghkcfmcnlaa
