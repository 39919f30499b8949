/- Grammars and descriptions: as they lie in memory, and what the program says of them. Conditions: none. -/
import Derived.Test.YtafmgkiddhappaaDoorYPWord
import Derived.Test.YtafmgkiddhappaaDoorZSb
namespace Go.Proofs.YtafmgkiddhappaaDoor
open Go.Sx Go.RowKit

/-- a trait, and where its values lie -/
structure TraitV where
  name : ByteArray
  A : Option Addr
  c : Nat
  vals : List ByteArray
  must : Bool
instance : Inhabited TraitV := ⟨⟨⟨#[]⟩, none, 0, [], false⟩⟩
abbrev encTr (t : TraitV) : List Value := [.string t.name, .slice t.A t.vals.length t.c, .bool t.must]
structure GoodT (w : World) (t : TraitV) : Prop where
  rd : Rd w 1 enStr t.A t.vals
  sm : smS t.vals
  nm : t.name.size ≤ 9223372036854775807
theorem GoodT.mono {w w' : World} {t : TraitV} (h : GoodT w t) (hg : Grow w w') : GoodT w' t := ⟨h.rd.mono hg, h.sm, h.nm⟩
/-- a class, and where its traits and parts lie -/
structure ClassV where
  name : ByteArray
  At : Option Addr
  ct : Nat
  traits : List TraitV
  Ap : Option Addr
  cp : Nat
  parts : List ByteArray
  most : Int
abbrev zC : ClassV := ⟨⟨#[]⟩, none, 0, [], none, 0, [], 0⟩
instance : Inhabited ClassV := ⟨zC⟩
abbrev encCl (c : ClassV) : List Value := [.string c.name, .slice c.At c.traits.length c.ct, .slice c.Ap c.parts.length c.cp, .int .i64 c.most]
abbrev evC (c : ClassV) : Value := .agg #[.string c.name, .slice c.At c.traits.length c.ct, .slice c.Ap c.parts.length c.cp, .int .i64 c.most]
structure GoodC (w : World) (c : ClassV) : Prop where
  rt : Rd w 3 encTr c.At c.traits
  tr : ∀ t ∈ c.traits, GoodT w t
  rp : Rd w 1 enStr c.Ap c.parts
  sm : smS c.parts
  nm : c.name.size ≤ 9223372036854775807
theorem GoodC.mono {w w' : World} {c : ClassV} (h : GoodC w c) (hg : Grow w w') : GoodC w' c := ⟨h.rt.mono hg, fun t ht => (h.tr t ht).mono hg, h.rp.mono hg, h.sm, h.nm⟩
theorem GoodC.zero (w : World) : GoodC w zC := ⟨.nil, by simp, .nil, fun s hs => (by cases hs), by decide⟩
/-- an item, and where what is said of it and its parts lie -/
inductive ItemV where
  | mk (cls : ByteArray) (As : Option Addr) (cs : Nat) (says : List ByteArray) (Ap : Option Addr) (cp : Nat) (parts : List ItemV)
namespace ItemV
def cls : ItemV → ByteArray | mk c .. => c
def As : ItemV → Option Addr | mk _ a .. => a
def cs : ItemV → Nat | mk _ _ c .. => c
def says : ItemV → List ByteArray | mk _ _ _ s .. => s
def Ap : ItemV → Option Addr | mk _ _ _ _ a .. => a
def cp : ItemV → Nat | mk _ _ _ _ _ c _ => c
def parts : ItemV → List ItemV | mk _ _ _ _ _ _ p => p
end ItemV
instance : Inhabited ItemV := ⟨.mk ⟨#[]⟩ none 0 [] none 0 []⟩
abbrev encIt (x : ItemV) : List Value := [.string x.cls, .slice x.As x.says.length x.cs, .slice x.Ap x.parts.length x.cp]
abbrev evI (x : ItemV) : Value := .agg #[.string x.cls, .slice x.As x.says.length x.cs, .slice x.Ap x.parts.length x.cp]
inductive GoodI (w : World) : ItemV → Prop
  | mk {x : ItemV} (hs : Rd w 1 enStr x.As x.says) (hp : Rd w 3 encIt x.Ap x.parts) (hn : x.cls.size ≤ 9223372036854775807) (hm : smS x.says) (hr : ∀ p ∈ x.parts, GoodI w p) : GoodI w x
theorem GoodI.rs {w : World} {x : ItemV} (h : GoodI w x) : Rd w 1 enStr x.As x.says := by cases h; assumption
theorem GoodI.rp {w : World} {x : ItemV} (h : GoodI w x) : Rd w 3 encIt x.Ap x.parts := by cases h; assumption
theorem GoodI.sm {w : World} {x : ItemV} (h : GoodI w x) : smS x.says := by cases h; assumption
theorem GoodI.nm {w : World} {x : ItemV} (h : GoodI w x) : x.cls.size ≤ 9223372036854775807 := by cases h; assumption
theorem GoodI.pt {w : World} {x : ItemV} (h : GoodI w x) : ∀ p ∈ x.parts, GoodI w p := by cases h; assumption
theorem GoodI.mono {w w' : World} {x : ItemV} (h : GoodI w x) (hg : Grow w w') : GoodI w' x := by
  induction h with
  | mk hs hp hn hm _ ih => exact .mk (hs.mono hg) (hp.mono hg) hn hm ih

/-! ### What the program says of a grammar -/
def traitOk (t : TraitV) : Bool := !((!(decide (1 ≤ (t.vals.length : Int)) && decide ((t.vals.length : Int) ≤ 8))) || !(wordsB t.vals))
def class1 (c : ClassV) : Bool := !(((decide (8 < (c.traits.length : Int)) || !(decide (0 ≤ c.most) && decide (c.most ≤ 6))) || (((c.parts.length : Int) == 0) && (c.most != 0))) || !(wordsB c.parts))
def classOk (ns : List ByteArray) (c : ClassV) : Bool := class1 c && (c.parts.all (hasW ns) && (c.traits.all traitOk && wordsB (c.traits.map (·.name))))
theorem class1_tr {c : ClassV} (h : class1 c = true) : (c.traits.length : Int) ≤ 8 := by
  unfold class1 at h
  simp only [Bool.not_eq_true', Bool.or_eq_false_iff, decide_eq_false_iff_not] at h
  omega
def namesC (l : List ClassV) : List ByteArray := l.map (·.name)
def gramOk (l : List ClassV) : Bool := (decide (1 ≤ (l.length : Int)) && decide ((l.length : Int) ≤ 12)) && (wordsB (namesC l) && l.all (classOk (namesC l)))
def putAll : List (ByteArray × ClassV) → List ClassV → List (ByteArray × ClassV)
  | m, [] => m
  | m, c :: l => putAll (putL m c.name c) l
theorem putAll_add (m : List (ByteArray × ClassV)) (l : List ClassV) (c : ClassV) : putAll m (l ++ [c]) = putL (putAll m l) c.name c := by
  induction l generalizing m with
  | nil => rfl
  | cons d l ih => exact ih _
def gramM (l : List ClassV) : List (ByteArray × ClassV) := putAll [] l
def gramE (l : List ClassV) : Int := if gramOk l then 0 else 10

/-! ### What the program says of a description -/
def saysOne (t : TraitV) (s : ByteArray) : Bool := !(((s == ⟨#[]⟩) && t.must) || ((!(s == ⟨#[]⟩)) && !(hasW t.vals s)))
def saysOk : List TraitV → List ByteArray → Bool
  | t :: ts, s :: ss => saysOne t s && saysOk ts ss
  | _, _ => true
theorem saysOk_drop (ts : List TraitV) (ss : List ByteArray) (k : Nat) (t : TraitV) (s : ByteArray) (ht : ts[k]? = some t) (hs : ss[k]? = some s) : saysOk (ts.drop k) (ss.drop k) = (saysOne t s && saysOk (ts.drop (k + 1)) (ss.drop (k + 1))) := by
  obtain ⟨h1, h2⟩ := List.getElem?_eq_some_iff.1 ht
  obtain ⟨h3, h4⟩ := List.getElem?_eq_some_iff.1 hs
  rw [List.drop_eq_getElem_cons h1, h2, List.drop_eq_getElem_cons h3, h4, saysOk]
mutual
def fitsI (g : List (ByteArray × ClassV)) : ItemV → Int → Int → Option Int
  | .mk cls _ _ says _ _ parts, deep, most =>
    match getL g cls with
    | none => none
    | some c => if 3 < deep ∨ most < 1 ∨ says.length ≠ c.traits.length ∨ c.most < (parts.length : Int) then none else if saysOk c.traits says then fitsL g c.parts parts deep most 1 else none
def fitsL (g : List (ByteArray × ClassV)) (cp : List ByteArray) : List ItemV → Int → Int → Int → Option Int
  | [], _, _, many => some many
  | p :: l, deep, most, many => if hasW cp p.cls then (match fitsI g p (deep + 1) (most - many) with | none => none | some n => fitsL g cp l deep most (many + n)) else none
end
mutual
theorem fitsI_bd (g : List (ByteArray × ClassV)) : ∀ (x : ItemV) (deep most n : Int), fitsI g x deep most = some n → 1 ≤ n ∧ n ≤ most
  | .mk cls As cs says Ap cp parts, deep, most, n, h => by
    unfold fitsI at h
    split at h
    · cases h
    · split at h
      · cases h
      · split at h
        · exact fitsL_bd g _ parts deep most 1 n (by omega) (by omega) h
        · cases h
theorem fitsL_bd (g : List (ByteArray × ClassV)) (cp : List ByteArray) : ∀ (l : List ItemV) (deep most many n : Int), 1 ≤ many → many ≤ most → fitsL g cp l deep most many = some n → 1 ≤ n ∧ n ≤ most
  | [], deep, most, many, n, h1, h2, h => by
    unfold fitsL at h
    injection h with h
    omega
  | p :: l, deep, most, many, n, h1, h2, h => by
    unfold fitsL at h
    split at h
    · split at h
      · cases h
      · rename_i m hm
        have := fitsI_bd g p _ _ m hm
        exact fitsL_bd g cp l deep most (many + m) n (by omega) (by omega) h
    · cases h
end
def fitsT (o : Option ClassV) (ns np : Nat) (deep most : Int) : Bool := ((((!(o.isSome) || decide (3 < deep)) || decide (most < 1)) || ((ns : Int) != ((o.getD zC).traits.length : Int))) || decide ((o.getD zC).most < (np : Int)))
theorem fitsT_none {o : Option ClassV} {ns np : Nat} {deep most : Int} (h : fitsT o ns np deep most = true) : o = none ∨ ∃ c, o = some c ∧ (3 < deep ∨ most < 1 ∨ ns ≠ c.traits.length ∨ c.most < (np : Int)) := by
  cases o with
  | none => exact .inl rfl
  | some c =>
    refine .inr ⟨c, rfl, ?_⟩
    simp only [fitsT, Option.isSome_some, Option.getD_some, Bool.not_true, Bool.false_or, Bool.or_eq_true, decide_eq_true_eq, bne_iff_ne, ne_eq] at h
    omega
theorem fitsT_some {o : Option ClassV} {ns np : Nat} {deep most : Int} (h : fitsT o ns np deep most = false) : ∃ c, o = some c ∧ ¬ (3 < deep ∨ most < 1 ∨ ns ≠ c.traits.length ∨ c.most < (np : Int)) := by
  cases o with
  | none => simp [fitsT] at h
  | some c =>
    refine ⟨c, rfl, ?_⟩
    simp only [fitsT, Option.isSome_some, Option.getD_some, Bool.not_true, Bool.false_or, Bool.or_eq_false_iff, decide_eq_false_iff_not, bne_eq_false_iff_eq] at h
    omega
theorem fitsI_none {g : List (ByteArray × ClassV)} {x : ItemV} {deep most : Int} (h : fitsT (getL g x.cls) x.says.length x.parts.length deep most = true) : fitsI g x deep most = none := by
  have h1 := fitsT_none h
  obtain ⟨cls, As, cs, says, Ap, cp, parts⟩ := x
  unfold fitsI
  simp only [ItemV.cls, ItemV.says, ItemV.parts] at h1
  rcases h1 with h1 | ⟨c, h1, h2⟩
  · rw [h1]
  · rw [h1]; simp only; rw [if_pos h2]
theorem fitsI_some {g : List (ByteArray × ClassV)} {x : ItemV} {deep most : Int} (h : fitsT (getL g x.cls) x.says.length x.parts.length deep most = false) :
    ∃ c, getL g x.cls = some c ∧ deep ≤ 3 ∧ 1 ≤ most ∧ x.says.length = c.traits.length ∧ fitsI g x deep most = if saysOk c.traits x.says then fitsL g c.parts x.parts deep most 1 else none := by
  obtain ⟨c, h1, h2⟩ := fitsT_some h
  obtain ⟨cls, As, cs, says, Ap, cp, parts⟩ := x
  simp only [ItemV.cls, ItemV.says, ItemV.parts] at h1 h2 ⊢
  refine ⟨c, h1, by omega, by omega, by omega, ?_⟩
  unfold fitsI
  rw [h1]
  simp only
  rw [if_neg h2]
  rfl
theorem fitsL_drop (g : List (ByteArray × ClassV)) (cp : List ByteArray) (l : List ItemV) (k : Nat) (p : ItemV) (deep most many : Int) (h : l[k]? = some p) :
    fitsL g cp (l.drop k) deep most many = if hasW cp p.cls then (match fitsI g p (deep + 1) (most - many) with | none => none | some n => fitsL g cp (l.drop (k + 1)) deep most (many + n)) else none := by
  obtain ⟨h1, h2⟩ := List.getElem?_eq_some_iff.1 h
  rw [List.drop_eq_getElem_cons h1, h2, fitsL]
theorem getL_mem {g : List (ByteArray × ClassV)} {s : ByteArray} {c : ClassV} (h : getL g s = some c) : ∃ p ∈ g, p.2 = c := by
  induction g with
  | nil => cases h
  | cons p g ih =>
    rw [getL] at h
    split at h
    · injection h with h; exact ⟨p, by simp, h⟩
    · obtain ⟨q, hq, he⟩ := ih h; exact ⟨q, by simp [hq], he⟩
theorem putL_mem {m : List (ByteArray × ClassV)} {k : ByteArray} {c : ClassV} {p : ByteArray × ClassV} (h : p ∈ putL m k c) : p ∈ m ∨ p.2 = c := by
  induction m with
  | nil => simp only [putL, List.mem_singleton] at h; exact .inr (by rw [h])
  | cons q m ih =>
    rw [putL] at h
    split at h
    · rcases List.mem_cons.1 h with h | h
      · exact .inr (by rw [h])
      · exact .inl (List.mem_cons_of_mem _ h)
    · rcases List.mem_cons.1 h with h | h
      · exact .inl (by rw [h]; exact List.mem_cons_self ..)
      · rcases ih h with h | h
        · exact .inl (List.mem_cons_of_mem _ h)
        · exact .inr h
theorem putAll_mem (l : List ClassV) : ∀ (m : List (ByteArray × ClassV)) (p : ByteArray × ClassV), p ∈ putAll m l → p ∈ m ∨ p.2 ∈ l := by
  induction l with
  | nil => intro m p h; exact .inl h
  | cons c l ih =>
    intro m p h
    rcases ih _ p h with h | h
    · rcases putL_mem h with h | h
      · exact .inl h
      · exact .inr (by rw [h]; exact List.mem_cons_self ..)
    · exact .inr (List.mem_cons_of_mem _ h)
theorem gramM_mem {l : List ClassV} {p : ByteArray × ClassV} (h : p ∈ gramM l) : p.2 ∈ l := by
  rcases putAll_mem l [] p h with h | h
  · cases h
  · exact h
def itemOk (l : List ClassV) (x : ItemV) : Bool := (fitsI (gramM l) x 1 24).isSome
def askIOk (l : List ClassV) (xs : List ItemV) : Bool := gramOk l && xs.all (itemOk l)
def askIE (l : List ClassV) (xs : List ItemV) : Int := if gramOk l then (if xs.all (itemOk l) then 0 else 11) else 10
end Go.Proofs.YtafmgkiddhappaaDoor
