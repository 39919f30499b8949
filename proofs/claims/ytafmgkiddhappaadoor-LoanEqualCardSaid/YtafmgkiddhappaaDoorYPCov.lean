/- When a description covers another one, as the program looks for it. Conditions: none. -/
import Derived.Test.YtafmgkiddhappaaDoorYPItem
import Derived.Test.YtafmgkiddhappaaDoorZSb
namespace Go.Proofs.YtafmgkiddhappaaDoor
open Go.Sx Go.RowKit

abbrev bls (us : List Bool) : List Value := us.map (fun x => Value.bool x)
theorem bls_set (us : List Bool) (k : Nat) (v : Bool) : (bls us).set k (.bool v) = bls (us.set k v) := (List.map_set).symm
theorem bls_get {us : List Bool} {k : Nat} {u : Bool} (h : us[k]? = some u) : (bls us)[k]? = some (.bool u) := by rw [List.getElem?_map, h]; rfl
theorem bls_len (us : List Bool) : (bls us).length = us.length := List.length_map ..
/-- one part's turn: the others that are left are tried, one after the other; 'f': the parts behind it -/
def scanA (f : List Bool → Bool × List Bool) : List Bool → Nat → List Bool → Bool × List Bool
  | [], _, us => (false, us)
  | c :: cs, k, us => if us.getD k false || !c then scanA f cs (k + 1) us else if (f (us.set k true)).1 then (true, (f (us.set k true)).2) else scanA f cs (k + 1) ((f (us.set k true)).2.set k false)
def asg : List (List Bool) → List Bool → Bool × List Bool
  | [], us => (true, us)
  | row :: rest, us => scanA (fun u => asg rest u) row 0 us
theorem scanA_len (f : List Bool → Bool × List Bool) (hf : ∀ u, (f u).2.length = u.length) : ∀ (cs : List Bool) (k : Nat) (us : List Bool), (scanA f cs k us).2.length = us.length
  | [], _, _ => rfl
  | c :: cs, k, us => by
    rw [scanA]
    split
    · exact scanA_len f hf cs _ _
    · split
      · rw [hf]; simp
      · rw [scanA_len f hf cs _ _]; simp [hf]
theorem asg_len : ∀ (rows : List (List Bool)) (us : List Bool), (asg rows us).2.length = us.length
  | [], _ => rfl
  | _ :: rest, us => by rw [asg]; exact scanA_len _ (asg_len rest) _ _ _
theorem scanA_drop (f : List Bool → Bool × List Bool) (row : List Bool) (k : Nat) (c u : Bool) (us : List Bool) (h : row[k]? = some c) (hu : us[k]? = some u) :
    scanA f (row.drop k) k us = if u || !c then scanA f (row.drop (k + 1)) (k + 1) us else if (f (us.set k true)).1 then (true, (f (us.set k true)).2) else scanA f (row.drop (k + 1)) (k + 1) ((f (us.set k true)).2.set k false) := by
  obtain ⟨h1, h2⟩ := List.getElem?_eq_some_iff.1 h
  rw [List.drop_eq_getElem_cons h1, h2, scanA, List.getD_eq_getElem?_getD, hu]; rfl
def saysCov : List ByteArray → List ByteArray → Bool
  | s :: ss, t :: ts => !((!(s == ⟨#[]⟩)) && !(s == t)) && saysCov ss ts
  | _, _ => true
theorem saysCov_drop (ss ts : List ByteArray) (k : Nat) (s t : ByteArray) (hs : ss[k]? = some s) (ht : ts[k]? = some t) : saysCov (ss.drop k) (ts.drop k) = (!((!(s == ⟨#[]⟩)) && !(s == t)) && saysCov (ss.drop (k + 1)) (ts.drop (k + 1))) := by
  obtain ⟨h1, h2⟩ := List.getElem?_eq_some_iff.1 hs
  obtain ⟨h3, h4⟩ := List.getElem?_eq_some_iff.1 ht
  rw [List.drop_eq_getElem_cons h1, h2, List.drop_eq_getElem_cons h3, h4, saysCov]
mutual
def covI : ItemV → ItemV → Bool
  | .mk cls _ _ says _ _ parts, b => decide (cls = b.cls) && (saysCov says b.says && (asg (covRows parts b.parts) (List.replicate b.parts.length false)).1)
def covRows : List ItemV → List ItemV → List (List Bool)
  | [], _ => []
  | p :: l, bs => bs.map (fun q => covI p q) :: covRows l bs
end
theorem covRows_drop (l bs : List ItemV) (i : Nat) (p : ItemV) (h : l[i]? = some p) : covRows (l.drop i) bs = bs.map (fun q => covI p q) :: covRows (l.drop (i + 1)) bs := by
  obtain ⟨h1, h2⟩ := List.getElem?_eq_some_iff.1 h
  rw [List.drop_eq_getElem_cons h1, h2, covRows]
theorem covI_cls {a b : ItemV} (h : covI a b = true) : a.cls = b.cls := by
  obtain ⟨cls, As, cs, says, Ap, cp, parts⟩ := a
  unfold covI at h
  simp only [Bool.and_eq_true, decide_eq_true_eq] at h
  exact h.1
/-- the classes of an item and of its parts are known, and as much is said of each as its class has traits -/
inductive OkG (g : List (ByteArray × ClassV)) : ItemV → Prop
  | mk {x : ItemV} (h : ∃ c, getL g x.cls = some c ∧ x.says.length = c.traits.length) (hn : x.parts.length ≤ 24) (hr : ∀ p ∈ x.parts, OkG g p) : OkG g x
/-- what the search has at hand -/
structure FindW (w0 w : World) (a b : ItemV) (xa xb xu x7 x8 : Nat) : Prop where
  hg : Grow w0 w
  hu : w0.heap.size ≤ xu
  ha : w.heap[xa]? = some (cellsB 103 [.string a.cls, .slice a.As a.says.length a.cs, .slice a.Ap a.parts.length a.cp])
  hb : w.heap[xb]? = some (cellsB 103 [.string b.cls, .slice b.As b.says.length b.cs, .slice b.Ap b.parts.length b.cp])
  h7 : w.heap[x7]? = some (cellsB 160 [.slice (some ⟨xu, 0, none⟩) b.parts.length b.parts.length])
  h8 : w.heap[x8]? = some (cellsB 114 [.func (.func 96) #[] #[.pointer (some ⟨xa, 0, none⟩), .pointer (some ⟨xb, 0, none⟩), .pointer (some ⟨x7, 0, none⟩), .pointer (some ⟨x8, 0, none⟩)]])
  na : xa ≠ xu
  nb : xb ≠ xu
  n7 : x7 ≠ xu
  n8 : x8 ≠ xu
theorem OkG.says {g : List (ByteArray × ClassV)} {a b : ItemV} (ha : OkG g a) (hb : OkG g b) (h : a.cls = b.cls) : a.says.length = b.says.length := by
  cases ha with
  | mk h1 _ _ =>
    cases hb with
    | mk h2 _ _ =>
      obtain ⟨c, h3, h4⟩ := h1
      obtain ⟨d, h5, h6⟩ := h2
      rw [h, h5] at h3
      injection h3 with h3
      rw [h4, h6, h3]
theorem OkG.few {g : List (ByteArray × ClassV)} {a : ItemV} (ha : OkG g a) : a.parts.length ≤ 24 := by cases ha; assumption
theorem OkG.pt {g : List (ByteArray × ClassV)} {a : ItemV} (ha : OkG g a) : ∀ p ∈ a.parts, OkG g p := by cases ha; assumption
theorem covI_eq (a b : ItemV) : covI a b = (decide (a.cls = b.cls) && (saysCov a.says b.says && (asg (covRows a.parts b.parts) (List.replicate b.parts.length false)).1)) := by
  obtain ⟨cls, As, cs, says, Ap, cp, parts⟩ := a
  unfold covI
  rfl
theorem blk_ne {w : World} {x y e f : Nat} {cs ds : List Value} (h1 : w.heap[x]? = some (cellsB e cs)) (h2 : w.heap[y]? = some (cellsB f ds)) (hef : e ≠ f) : x ≠ y := by
  rintro rfl
  rw [h1] at h2
  injection h2 with h2
  injection h2 with _ h3
  exact hef h3
mutual
theorem fitsI_ok (g : List (ByteArray × ClassV)) (hm : ∀ p ∈ g, p.2.most ≤ 6) : ∀ (x : ItemV) (deep most n : Int), fitsI g x deep most = some n → OkG g x
  | .mk cls As cs says Ap cp parts, deep, most, n, h => by
    unfold fitsI at h
    split at h
    · cases h
    · rename_i c hc
      split at h
      · cases h
      · rename_i hn
        split at h
        · obtain ⟨p, hp, he⟩ := getL_mem hc
          have h6 := hm p hp
          rw [he] at h6
          exact .mk ⟨c, hc, (by show says.length = _; omega)⟩ (by show parts.length ≤ 24; omega) (fitsL_ok g hm _ parts deep most 1 n h)
        · cases h
theorem fitsL_ok (g : List (ByteArray × ClassV)) (hm : ∀ p ∈ g, p.2.most ≤ 6) (cp : List ByteArray) : ∀ (l : List ItemV) (deep most many n : Int), fitsL g cp l deep most many = some n → ∀ p ∈ l, OkG g p
  | [], _, _, _, _, _ => fun p hp => by cases hp
  | q :: l, deep, most, many, n, h => by
    unfold fitsL at h
    split at h
    · split at h
      · cases h
      · rename_i m hm2
        intro p hp
        rcases List.mem_cons.1 hp with hp | hp
        · rw [hp]; exact fitsI_ok g hm q _ _ m hm2
        · exact fitsL_ok g hm cp l deep most (many + m) n h p hp
    · cases h
end
theorem gram_most {l : List ClassV} (h : gramOk l = true) : ∀ p ∈ gramM l, p.2.most ≤ 6 := by
  intro p hp
  have h1 := gramM_mem hp
  simp only [gramOk, Bool.and_eq_true, List.all_eq_true] at h
  have h2 := h.2.2 p.2 h1
  simp only [classOk, Bool.and_eq_true] at h2
  have h3 := h2.1
  unfold class1 at h3
  simp only [Bool.not_eq_true', Bool.or_eq_false_iff, Bool.not_eq_false', Bool.and_eq_true, decide_eq_true_eq] at h3
  omega
theorem askIE_no {l : List ClassV} {xs : List ItemV} (h : (askIE l xs != 0) = true) : askIOk l xs = false := by
  unfold askIE at h
  unfold askIOk
  cases h1 : gramOk l <;> cases h2 : xs.all (itemOk l) <;> simp [h1, h2] at h ⊢
theorem askIE_ok {l : List ClassV} {xs : List ItemV} (h : (askIE l xs != 0) = false) : askIOk l xs = true := by
  unfold askIE at h
  unfold askIOk
  cases h1 : gramOk l <;> cases h2 : xs.all (itemOk l) <;> simp [h1, h2] at h ⊢
theorem ask_okG {l : List ClassV} {xs : List ItemV} (h : askIOk l xs = true) : ∀ x ∈ xs, OkG (gramM l) x := by
  intro x hx
  simp only [askIOk, Bool.and_eq_true, List.all_eq_true] at h
  have h1 := h.2 x hx
  unfold itemOk at h1
  obtain ⟨n, hn⟩ := Option.isSome_iff_exists.1 h1
  exact fitsI_ok _ (gram_most h.1) x 1 24 n hn
def CovT (l : List ClassV) (a b : ItemV) : Bool := askIOk l [a, b] && covI a b
end Go.Proofs.YtafmgkiddhappaaDoor
