/- Texts of ours, joined: 11 of them. Conditions: none. -/
import Derived.Test.YtlfbghkcfmcnlaaGreatDoorZb
import Derived.Sort.Walk0
import Derived.Lib.SplitLaws
import Derived.Maps.RangeRun
import Derived.Maps.AppendAt
namespace Go.Proofs.YtlfbghkcfmcnlaaGreatDoor
open Go.Sx Go.RowKit

abbrev sRing : ByteArray := ⟨#[114, 105, 110, 103]⟩
abbrev sMetal : ByteArray := ⟨#[109, 101, 116, 97, 108]⟩
abbrev sGold : ByteArray := ⟨#[103, 111, 108, 100]⟩
abbrev sSilver : ByteArray := ⟨#[115, 105, 108, 118, 101, 114]⟩
abbrev sSize : ByteArray := ⟨#[115, 105, 122, 101]⟩
abbrev sSmall : ByteArray := ⟨#[115, 109, 97, 108, 108]⟩
abbrev sLarge : ByteArray := ⟨#[108, 97, 114, 103, 101]⟩
abbrev sGem : ByteArray := ⟨#[103, 101, 109]⟩
abbrev sCut : ByteArray := ⟨#[99, 117, 116]⟩
abbrev sRound : ByteArray := ⟨#[114, 111, 117, 110, 100]⟩
abbrev sOval : ByteArray := ⟨#[111, 118, 97, 108]⟩
abbrev sNone : ByteArray := ⟨#[]⟩
/-- where the grammar's parts lie -/
structure GrA where
  v1 : Nat
  v3 : Nat
  t5 : Nat
  p6 : Nat
  v8 : Nat
  t10 : Nat
  g12 : Nat
abbrev at0 (b : Nat) : Option Addr := some ⟨b, 0, none⟩
abbrev gTr1 (a : GrA) : List TraitV := [⟨sMetal, at0 a.v1, 2, [sGold, sSilver], true⟩, ⟨sSize, at0 a.v3, 2, [sSmall, sLarge], false⟩]
abbrev gTr2 (a : GrA) : List TraitV := [⟨sCut, at0 a.v8, 2, [sRound, sOval], false⟩]
abbrev gramV (a : GrA) : List ClassV := [⟨sRing, at0 a.t5, 2, gTr1 a, at0 a.p6, 1, [sGem], 2⟩, ⟨sGem, at0 a.t10, 1, gTr2 a, none, 0, [], 0⟩]
structure GoodTF (fp : Nat → Prop) (w : World) (t : TraitV) : Prop where
  rd : (sl fp 1 enStr t.A t.vals).P w
  sm : smS t.vals
  nm : t.name.size ≤ 9223372036854775807
structure GoodCF (fp : Nat → Prop) (w : World) (c : ClassV) : Prop where
  rt : (sl fp 3 encTr c.At c.traits).P w
  tr : ∀ t ∈ c.traits, GoodTF fp w t
  rp : (sl fp 1 enStr c.Ap c.parts).P w
  sm : smS c.parts
  nm : c.name.size ≤ 9223372036854775807
theorem GoodCF.stab {fp : Nat → Prop} {w w' : World} {c : ClassV} (h : GoodCF fp w c) (hb : ∀ b, fp b → w'.heap[b]? = w.heap[b]?) : GoodCF fp w' c :=
  ⟨(sl fp 3 encTr _ _).stab hb h.rt, fun t ht => ⟨(sl fp 1 enStr _ _).stab hb (h.tr t ht).rd, (h.tr t ht).sm, (h.tr t ht).nm⟩, (sl fp 1 enStr _ _).stab hb h.rp, h.sm, h.nm⟩
theorem GoodCF.good {fp : Nat → Prop} {w : World} {c : ClassV} (h : GoodCF fp w c) (hb : ∀ b, fp b → b < w.heap.size) : GoodC w c :=
  ⟨sl_fp h.rt hb, fun t ht => ⟨sl_fp (h.tr t ht).rd hb, (h.tr t ht).sm, (h.tr t ht).nm⟩, sl_fp h.rp hb, h.sm, h.nm⟩
/-- classes that lie in some blocks, as one fact -/
def clF (fp : Nat → Prop) (A : Option Addr) (l : List ClassV) : Fact where
  fp := fp
  P := fun w => (sl fp 4 encCl A l).P w ∧ ∀ c ∈ l, GoodCF fp w c
  stab := fun hb h => ⟨(sl fp 4 encCl A l).stab hb h.1, fun c hc => (h.2 c hc).stab hb⟩
class MemS (f : Fact) (S : List Fact) : Prop where
  mem : f ∈ S
instance (priority := 1000) MemS.head (f : Fact) (S : List Fact) : MemS f (f :: S) := ⟨List.mem_cons_self ..⟩
instance (priority := 900) MemS.tail (f g : Fact) (S : List Fact) [h : MemS f S] : MemS f (g :: S) := ⟨List.mem_cons_of_mem _ h.mem⟩
theorem hp_cl {F : Nat → Prop} {w0 w : World} {O S : List Fact} (hp : Hp F w0 O S w) (fp : Nat → Prop) (A : Option Addr) (l : List ClassV) [h : MemS (clF fp A l) S] : Rd w 4 encCl A l ∧ ∀ c ∈ l, GoodC w c :=
  ⟨sl_fp (hp.shared _ h.mem).1.1 (hp.shared _ h.mem).2.1, fun c hc => ((hp.shared _ h.mem).1.2 c hc).good (hp.shared _ h.mem).2.1⟩
theorem hp_it {F : Nat → Prop} {w0 w : World} {O S : List Fact} (hp : Hp F w0 O S w) (fp : Nat → Prop) (x : ItemV) [h : MemS (itF fp [x]) S] : GoodI w x := it_good hp h.mem x (List.mem_cons_self ..)

/-! ### The ring -/
abbrev gemV (b : Nat) (s : ByteArray) : ItemV := .mk sGem (at0 b) 1 [s] none 0 []
abbrev ringV (b : Nat) (s : ByteArray) (g : Nat) (parts : List ItemV) : ItemV := .mk sRing (at0 b) 2 [sGold, s] (at0 g) parts.length parts
abbrev mEx : List Meas := [⟨2, 1⟩, ⟨5, 4⟩]
abbrev tEx : List Int := [100, 1000]
abbrev fEx (b c : Nat) : List FakeV := [⟨at0 b, 2, [⟨90, 93⟩, ⟨900, 1100⟩]⟩, ⟨at0 c, 2, [⟨95, 105⟩, ⟨1016, 1030⟩]⟩]
abbrev rEx (b c : Nat) : List ListV := [⟨at0 b, 2, [100, 1000]⟩, ⟨at0 c, 2, [103, -1]⟩]
abbrev sTx1 : ByteArray := ⟨#[114, 105, 110, 103, 32, 109, 101, 116, 97, 108, 61, 103, 111, 108, 100, 32, 40, 32, 103, 101, 109, 32, 99, 117, 116, 61, 114, 111, 117, 110, 100, 32, 59, 32, 103, 101, 109, 32, 41]⟩
abbrev sTx2 : ByteArray := ⟨#[114, 105, 110, 103, 32, 109, 101, 116, 97, 108, 61, 103, 111, 108, 100, 32, 40, 32, 103, 101, 109, 32, 59, 32, 103, 101, 109, 32, 99, 117, 116, 61, 114, 111, 117, 110, 100, 32, 41]⟩
theorem ex_gram (a : GrA) : gramOk (gramV a) = true := by kernel_rfl
theorem ex_ask (a : GrA) (b g c d : Nat) : askIE (gramV a) [ringV b sNone g [gemV c sRound, gemV d sNone]] = 0 := by kernel_rfl
theorem ex_prn (a : GrA) (b g c d : Nat) : PrnT (gramV a) (ringV b sNone g [gemV c sRound, gemV d sNone]) = sTx1 := by kernel_rfl
theorem ex_cntI (a : GrA) (b g c d : Nat) : CntI (gramV a) (ringV b sNone g [gemV c sRound, gemV d sNone]) = 3 := by kernel_rfl
theorem ex_cntS (a : GrA) (b g c d : Nat) : CntS (gramV a) (ringV b sNone g [gemV c sRound, gemV d sNone]) = 2 := by kernel_rfl
theorem ex_cov1 (a : GrA) (b g c d b2 g2 c2 d2 : Nat) : CovT (gramV a) (ringV b sNone g [gemV c sRound, gemV d sNone]) (ringV b2 sSmall g2 [gemV c2 sOval, gemV d2 sRound]) = true := by kernel_rfl
theorem ex_cov1e (a : GrA) (b g c d b2 g2 c2 d2 : Nat) : askIE (gramV a) [ringV b sNone g [gemV c sRound, gemV d sNone], ringV b2 sSmall g2 [gemV c2 sOval, gemV d2 sRound]] = 0 := by kernel_rfl
theorem ex_cov2 (a : GrA) (b g c d b2 g2 c2 : Nat) : CovT (gramV a) (ringV b sNone g [gemV c sRound, gemV d sNone]) (ringV b2 sNone g2 [gemV c2 sNone]) = false := by kernel_rfl
theorem ex_cov2e (a : GrA) (b g c d b2 g2 c2 : Nat) : askIE (gramV a) [ringV b sNone g [gemV c sRound, gemV d sNone], ringV b2 sNone g2 [gemV c2 sNone]] = 0 := by kernel_rfl
abbrev ringS : IT := .mk sRing [sGold, sNone] [.mk sGem [sNone] [], .mk sGem [sRound] []]
theorem ex_srt (a : GrA) (b g c d : Nat) : SrtT (gramV a) (ringV b sNone g [gemV c sRound, gemV d sNone]) = ringS := by kernel_rfl
theorem ex_narL (b c : Nat) : NarL mEx (rEx b c) = [⟨101, 102⟩, ⟨995, 1005⟩] := by kernel_rfl
theorem ex_narE (b c : Nat) : NarE mEx (rEx b c) = 0 := by kernel_rfl
theorem ex_lstS (b c : Nat) : LstS mEx tEx (fEx b c) = [0, 1] := by kernel_rfl
theorem ex_lstN (b c : Nat) : LstN mEx tEx (fEx b c) = 5 := by kernel_rfl
theorem ex_lstE (b c : Nat) : LstE mEx tEx (fEx b c) = 0 := by kernel_rfl
theorem ex_fndL (b : Nat) : FndL mEx tEx ⟨at0 b, 2, [⟨90, 93⟩, ⟨900, 1100⟩]⟩ = [0] := by kernel_rfl
theorem ex_fndE (b : Nat) : FndE mEx tEx ⟨at0 b, 2, [⟨90, 93⟩, ⟨900, 1100⟩]⟩ = 0 := by kernel_rfl
theorem ex_agrB : AgrB mEx tEx [104, 1010] = true := by kernel_rfl
theorem ex_agrE : AgrE mEx tEx [104, 1010] = 0 := by kernel_rfl
theorem ex_bndN (b c : Nat) : BndN mEx tEx (fEx b c) [1, 4] = 5 := by kernel_rfl
theorem ex_bndE (b c : Nat) : BndE mEx tEx (fEx b c) [1, 4] = 0 := by kernel_rfl
mutual
/-- what fits does not hang on where it lies -/
theorem fitsI_pl (g : List (ByteArray × ClassV)) : ∀ (x y : ItemV) (deep most : Int), x.pl = y.pl → fitsI g x deep most = fitsI g y deep most
  | .mk cls As cs says Ap cp parts, .mk cls' As' cs' says' Ap' cp' parts', deep, most, h => by
    rw [ItemV.pl, ItemV.pl] at h
    injection h with h1 h2 h3
    subst h1
    subst h2
    have hl : parts.length = parts'.length := by have := congrArg List.length h3; rwa [plL_map, plL_map, List.length_map, List.length_map] at this
    unfold fitsI
    rw [hl]
    split
    · rfl
    · rename_i c _
      rw [fitsL_pl g c.parts parts parts' deep most 1 h3]
theorem fitsL_pl (g : List (ByteArray × ClassV)) (cp : List ByteArray) : ∀ (l l' : List ItemV) (deep most many : Int), plL l = plL l' → fitsL g cp l deep most many = fitsL g cp l' deep most many
  | [], [], _, _, _, _ => rfl
  | [], _ :: _, _, _, _, h => by rw [plL, plL] at h; cases h
  | _ :: _, [], _, _, _, h => by rw [plL, plL] at h; cases h
  | p :: l, q :: l', deep, most, many, h => by
    rw [plL, plL] at h
    injection h with h1 h2
    have hc : p.cls = q.cls := by rw [← pl_cls, ← pl_cls, h1]
    unfold fitsL
    rw [hc, fitsI_pl g p q (deep + 1) (most - many) h1]
    split
    · split
      · rfl
      · rename_i n _
        exact fitsL_pl g cp l l' deep most (many + n) h2
    · rfl
end
theorem askOk_pl (l : List ClassV) {x y : ItemV} (h : x.pl = y.pl) : askIOk l [x] = askIOk l [y] := by
  unfold askIOk itemOk
  rw [List.all_cons, List.all_cons, fitsI_pl (gramM l) x y 1 24 h]
theorem askE_pl (l : List ClassV) {x y : ItemV} (h : x.pl = y.pl) : askIE l [x] = askIE l [y] := by
  unfold askIE itemOk
  rw [List.all_cons, List.all_cons, fitsI_pl (gramM l) x y 1 24 h]
theorem prn_pl (l : List ClassV) {x y : ItemV} (h : x.pl = y.pl) : PrnT l x = PrnT l y := by
  unfold PrnT; rw [askOk_pl l h, h]
abbrev ringC : ItemV := ringV 0 sNone 0 [gemV 0 sNone, gemV 0 sRound]
theorem ringC_pl : ringC.pl = ringS := by kernel_rfl
theorem ex_prn2 (a : GrA) {y : ItemV} (h : y.pl = ringS) : PrnT (gramV a) y = sTx2 := by
  rw [prn_pl (gramV a) (h.trans ringC_pl.symm)]; kernel_rfl
theorem ex_ask2 (a : GrA) {y : ItemV} (h : y.pl = ringS) : askIE (gramV a) [y] = 0 := by
  rw [askE_pl (gramV a) (h.trans ringC_pl.symm)]; kernel_rfl
theorem gem_good {w : World} {b : Nat} {s : ByteArray} (h : Rd w 1 enStr (at0 b) [s]) (hs : s.size ≤ 9223372036854775807) : GoodI w (gemV b s) :=
  .mk h Rd.nil (show ByteArray.size sGem ≤ 9223372036854775807 by decide) (fun t ht => by rw [List.mem_singleton.1 ht]; exact hs) (fun p hp => by cases hp)
theorem ring_good {w : World} {b g : Nat} {s : ByteArray} {parts : List ItemV} (h : Rd w 1 enStr (at0 b) [sGold, s]) (hs : s.size ≤ 9223372036854775807) (hp : Rd w 3 encIt (at0 g) parts) (hr : ∀ p ∈ parts, GoodI w p) : GoodI w (ringV b s g parts) :=
  .mk h hp (show ByteArray.size sRing ≤ 9223372036854775807 by decide) (fun t ht => by
    simp only [ItemV.says, List.mem_cons, List.mem_nil_iff, or_false] at ht
    rcases ht with rfl | rfl
    · decide
    · exact hs) hr
theorem eq_drop {α : Type} [DecidableEq α] (a b : List α) (k : Nat) (x y : α) (hx : a[k]? = some x) (hy : b[k]? = some y) : decide (a.drop k = b.drop k) = (decide (x = y) && decide (a.drop (k + 1) = b.drop (k + 1))) := by
  obtain ⟨h1, h2⟩ := List.getElem?_eq_some_iff.1 hx
  obtain ⟨h3, h4⟩ := List.getElem?_eq_some_iff.1 hy
  rw [List.drop_eq_getElem_cons h1, h2, List.drop_eq_getElem_cons h3, h4]
  by_cases h : x = y <;> by_cases h5 : a.drop (k + 1) = b.drop (k + 1) <;> simp [h, h5]
theorem eq_len {α : Type} [DecidableEq α] {a b : List α} (h : ¬ (a.length : Int) = b.length) : decide (a = b) = false := decide_eq_false (fun e => h (by rw [e]))
theorem sp_neq (x y : Span) : (!((x.lo == y.lo) && (x.hi == y.hi))) = !(decide (x = y)) := by
  obtain ⟨a, b⟩ := x; obtain ⟨c, d⟩ := y
  by_cases h : a = c <;> by_cases h2 : b = d <;> simp [h, h2]
end Go.Proofs.YtlfbghkcfmcnlaaGreatDoor
namespace Go.Proofs.YtlfbghkcfmcnlaaGreatDoor
open Go.Sx Go.RowKit

/-! ### Words -/
theorem firstS_at (s : ByteArray) : ∀ (l : List ByteArray) (k n : Nat), l[k]? = some s → (firstS s l n == ((n + k : Nat) : Int)) = !(hasW (l.take k) s)
  | [], k, n, h => by simp at h
  | q :: l, 0, n, h => by
    simp only [List.getElem?_cons_zero, Option.some.injEq] at h
    subst h
    rw [firstS, if_pos rfl]; simp [hasW]
  | q :: l, k + 1, n, h => by
    rw [firstS, List.take_succ_cons]
    show _ = !(decide (q = s) || hasW (l.take k) s)
    by_cases hq : q = s
    · rw [if_pos hq, decide_eq_true hq]
      simp only [Bool.true_or, Bool.not_true, beq_eq_false_iff_ne, ne_eq]; omega
    · rw [if_neg hq, decide_eq_false hq, Bool.false_or]
      have := firstS_at s l k (n + 1) (by simpa using h)
      rw [show n + (k + 1) = n + 1 + k by omega]; exact this
def diffG (full : List ByteArray) : List ByteArray → Nat → Bool
  | [], _ => true
  | s :: r, k => (isW s && (firstS s full 0 == (k : Int))) && diffG full r (k + 1)
theorem diffG_drop (full l : List ByteArray) (k : Nat) (s : ByteArray) (h : l[k]? = some s) : diffG full (l.drop k) k = ((isW s && (firstS s full 0 == (k : Int))) && diffG full (l.drop (k + 1)) (k + 1)) := by
  obtain ⟨h1, h2⟩ := List.getElem?_eq_some_iff.1 h
  rw [List.drop_eq_getElem_cons h1, h2, diffG]
theorem diffG_words (full : List ByteArray) : ∀ (l pre : List ByteArray), full = pre ++ l → diffG full l pre.length = wordsG pre l
  | [], _, _ => rfl
  | s :: l, pre, h => by
    rw [diffG, wordsG]
    have h1 := firstS_at s full pre.length 0 (by rw [h]; simp)
    rw [Nat.zero_add] at h1
    rw [h1, show full.take pre.length = pre by rw [h]; simp]
    have := diffG_words full l (pre ++ [s]) (by rw [h]; simp)
    rw [List.length_append] at this
    exact congrArg _ this
theorem diff_words (l : List ByteArray) : diffG l l 0 = wordsB l := diffG_words l l [] rfl
theorem hasW_iff {l : List ByteArray} {s : ByteArray} : hasW l s = true ↔ s ∈ l := by
  unfold hasW
  rw [List.any_eq_true]
  constructor
  · rintro ⟨q, hq, h⟩; rw [← of_decide_eq_true h]; exact hq
  · intro h; exact ⟨s, h, decide_eq_true rfl⟩
theorem wordsG_nd : ∀ (pre l : List ByteArray), wordsG pre l = true → l.Nodup ∧ ∀ s ∈ l, s ∉ pre
  | _, [], _ => by simp
  | pre, s :: l, h => by
    simp only [wordsG, Bool.and_eq_true, Bool.not_eq_true'] at h
    obtain ⟨h1, h2⟩ := wordsG_nd (pre ++ [s]) l h.2
    refine ⟨List.nodup_cons.2 ⟨fun hm => h2 s hm (by simp), h1⟩, fun t ht => ?_⟩
    rcases List.mem_cons.1 ht with rfl | ht
    · intro hm
      have := hasW_iff.2 hm
      rw [this] at h; exact absurd h.1.2 (by simp)
    · exact fun hm => h2 t ht (by simp [hm])
theorem nodup_le {α : Type} [DecidableEq α] : ∀ (a b : List α), a.Nodup → (∀ x ∈ a, x ∈ b) → a.length ≤ b.length
  | [], _, _, _ => Nat.zero_le _
  | x :: a, b, hn, h => by
    have h1 := List.nodup_cons.1 hn
    have hx : x ∈ b := h x (List.mem_cons_self ..)
    have h2 := nodup_le a (b.erase x) h1.2 (fun y hy => by
      have hne : y ≠ x := fun e => h1.1 (e ▸ hy)
      exact (List.mem_erase_of_ne hne).2 (h y (List.mem_cons_of_mem _ hy)))
    have h3 := List.length_erase_of_mem hx
    have h4 : 0 < b.length := List.length_pos_of_mem hx
    simp only [List.length_cons]; omega
theorem words_nd {l : List ByteArray} (h : wordsB l = true) : l.Nodup := (wordsG_nd [] l h).1
/-- different words that all lie in a list are no more than it has -/
theorem words_few {l ns : List ByteArray} (h : wordsB l = true) (hn : l.all (hasW ns) = true) : l.length ≤ ns.length :=
  nodup_le l ns (words_nd h) (fun s hs => hasW_iff.1 (List.all_eq_true.1 hn s hs))

/-! ### The class of an item -/
/-- the class with a name, by the names -/
def clsOf (l : List ClassV) (s : ByteArray) : Option ClassV := l.find? (fun c => decide (c.name = s))
theorem firstS_cls (s : ByteArray) : ∀ (l : List ClassV) (n : Nat), (match clsOf l s with | none => firstS s (namesC l) n = -1 | some c => ∃ k, l[k]? = some c ∧ firstS s (namesC l) n = ((n + k : Nat) : Int))
  | [], _ => by simp [clsOf, namesC, firstS]
  | c :: l, n => by
    unfold clsOf namesC
    rw [List.find?_cons, List.map_cons, firstS]
    by_cases h : c.name = s
    · rw [if_pos h, decide_eq_true h]
      exact ⟨0, rfl, by simp⟩
    · rw [if_neg h, decide_eq_false h]
      have := firstS_cls s l (n + 1)
      unfold clsOf namesC at this
      simp only
      split
      · rename_i h1; rw [h1] at this; exact this
      · rename_i c' h1
        rw [h1] at this
        obtain ⟨k, hk, he⟩ := this
        exact ⟨k + 1, by simpa using hk, by rw [he]; omega⟩
theorem getL_putL (m : List (ByteArray × ClassV)) (k : ByteArray) (c : ClassV) (s : ByteArray) : getL (putL m k c) s = if k = s then some c else getL m s := by
  induction m with
  | nil => rfl
  | cons p m ih =>
    rw [putL]
    split
    · rename_i h
      rw [getL, getL]
      simp only
      by_cases h2 : k = s
      · rw [if_pos h2, if_pos h2]
      · rw [if_neg h2, if_neg h2, if_neg (by rw [h]; exact h2)]
    · rename_i h
      rw [getL, getL, ih]
      by_cases h2 : p.1 = s
      · rw [if_pos h2, if_pos h2, if_neg (by rw [← h2]; exact fun e => h e.symm)]
      · rw [if_neg h2, if_neg h2]
theorem getL_putAll (s : ByteArray) : ∀ (l : List ClassV) (m : List (ByteArray × ClassV)), (namesC l).Nodup → getL (putAll m l) s = match clsOf l s with | some c => some c | none => getL m s
  | [], m, _ => rfl
  | c :: l, m, hn => by
    unfold namesC at hn
    rw [List.map_cons, List.nodup_cons] at hn
    rw [putAll, getL_putAll s l _ hn.2]
    unfold clsOf
    rw [List.find?_cons]
    by_cases h : c.name = s
    · have hno : l.find? (fun c => decide (c.name = s)) = none := by
        rw [List.find?_eq_none]
        intro d hd
        simp only [decide_eq_true_eq]
        intro e
        exact hn.1 (List.mem_map.2 ⟨d, hd, e.trans h.symm⟩)
      rw [hno, decide_eq_true h]
      simp only
      rw [getL_putL, if_pos h]
    · rw [decide_eq_false h]
      simp only
      split
      · rfl
      · rw [getL_putL, if_neg h]
theorem getL_gram {l : List ClassV} (h : gramOk l = true) (s : ByteArray) : getL (gramM l) s = clsOf l s := by
  simp only [gramOk, Bool.and_eq_true] at h
  have := getL_putAll s l [] (words_nd h.2.1)
  unfold gramM
  rw [this]
  split
  · rename_i h; rw [h]
  · rename_i h; rw [h]; rfl

/-! ### Valid, and counting -/
mutual
def valI (l : List ClassV) : ItemV → Int → Bool
  | .mk cls _ _ says _ _ parts, deep =>
    match clsOf l cls with
    | none => false
    | some c => if 3 < deep ∨ says.length ≠ c.traits.length ∨ c.most < (parts.length : Int) then false else saysOk c.traits says && valL l c.parts parts deep
def valL (l : List ClassV) (cp : List ByteArray) : List ItemV → Int → Bool
  | [], _ => true
  | p :: r, deep => (hasW cp p.cls && valI l p (deep + 1)) && valL l cp r deep
end
theorem valL_drop (l : List ClassV) (cp : List ByteArray) (r : List ItemV) (deep : Int) (k : Nat) (p : ItemV) (h : r[k]? = some p) : valL l cp (r.drop k) deep = ((hasW cp p.cls && valI l p (deep + 1)) && valL l cp (r.drop (k + 1)) deep) := by
  obtain ⟨h1, h2⟩ := List.getElem?_eq_some_iff.1 h
  rw [List.drop_eq_getElem_cons h1, h2, valL]
theorem valI_eq (l : List ClassV) (x : ItemV) (deep : Int) : valI l x deep = match clsOf l x.cls with
    | none => false
    | some c => if 3 < deep ∨ x.says.length ≠ c.traits.length ∨ c.most < (x.parts.length : Int) then false else saysOk c.traits x.says && valL l c.parts x.parts deep := by
  obtain ⟨cls, As, cs, says, Ap, cp, parts⟩ := x
  rw [valI]; rfl
mutual
theorem fits_val {l : List ClassV} (hg : gramOk l = true) : ∀ (x : ItemV) (deep most n : Int), fitsI (gramM l) x deep most = some n → valI l x deep = true
  | .mk cls As cs says Ap cp parts, deep, most, n, h => by
    unfold fitsI at h
    rw [getL_gram hg] at h
    rw [valI]
    split at h
    · cases h
    · rename_i c hc
      rw [hc]
      split at h
      · cases h
      · rename_i hn
        split at h
        · rename_i hso
          simp only
          rw [if_neg (by omega), hso, fitsL_val hg _ parts deep most 1 n h]; rfl
        · cases h
theorem fitsL_val {l : List ClassV} (hg : gramOk l = true) (cp : List ByteArray) : ∀ (r : List ItemV) (deep most many n : Int), fitsL (gramM l) cp r deep most many = some n → valL l cp r deep = true
  | [], _, _, _, _, _ => by rw [valL]
  | p :: r, deep, most, many, n, h => by
    unfold fitsL at h
    split at h
    · rename_i hw
      split at h
      · cases h
      · rename_i m hm
        rw [valL, hw, fits_val hg p _ _ m hm, fitsL_val hg cp r deep most (many + m) n h]; rfl
    · cases h
end
mutual
theorem val_fits {l : List ClassV} (hg : gramOk l = true) : ∀ (x : ItemV) (deep most : Int), valI l x deep = true → cntT x.pl ≤ most → fitsI (gramM l) x deep most = some (cntT x.pl)
  | .mk cls As cs says Ap cp parts, deep, most, h, hm => by
    rw [valI] at h
    rw [ItemV.pl, cntT] at hm ⊢
    unfold fitsI
    rw [getL_gram hg]
    split at h
    · cases h
    · rename_i c hc
      rw [hc]
      simp only
      split at h
      · cases h
      · rename_i hn
        simp only [Bool.and_eq_true] at h
        have hp := cntL_pos (plL parts)
        rw [if_neg (by omega), if_pos h.1, valL_fits hg _ parts deep most 1 h.2 (by omega)]
theorem valL_fits {l : List ClassV} (hg : gramOk l = true) (cp : List ByteArray) : ∀ (r : List ItemV) (deep most many : Int), valL l cp r deep = true → many + cntL (plL r) ≤ most → fitsL (gramM l) cp r deep most many = some (many + cntL (plL r))
  | [], _, _, _, _, _ => by unfold fitsL; rw [plL, cntL]; simp
  | p :: r, deep, most, many, h, hm => by
    rw [valL] at h
    simp only [Bool.and_eq_true] at h
    rw [plL, cntL] at hm ⊢
    have hp := cntL_pos (plL r)
    unfold fitsL
    rw [if_pos h.1.1, val_fits hg p (deep + 1) (most - many) h.1.2 (by omega)]
    simp only
    rw [valL_fits hg cp r deep most (many + cntT p.pl) h.2 (by omega)]
    congr 1; omega
end
/-- the program's check and the reference's -/
theorem itemOk_ref {l : List ClassV} (hg : gramOk l = true) (x : ItemV) : itemOk l x = (valI l x 1 && decide (cntT x.pl ≤ 24)) := by
  unfold itemOk
  cases h : fitsI (gramM l) x 1 24 with
  | some n =>
    obtain ⟨_, h2⟩ := fitsI_T hg x 1 24 n h
    have h3 := (fitsI_bd _ x 1 24 n h).2
    rw [fits_val hg x 1 24 n h, decide_eq_true (by omega)]; rfl
  | none =>
    cases h1 : valI l x 1 with
    | false => rfl
    | true =>
      by_cases h2 : cntT x.pl ≤ 24
      · rw [val_fits hg x 1 24 h1 h2] at h; cases h
      · rw [decide_eq_false h2]; rfl
mutual
/-- how many a valid description has at most, by how deep it lies -/
theorem val_cnt {l : List ClassV} (hg : gramOk l = true) : ∀ (x : ItemV) (deep : Int), valI l x deep = true → 1 ≤ deep → deep ≤ 3 ∧ OkT (gramM l) x.pl ∧ cntT x.pl ≤ (if deep = 3 then 7 else if deep = 2 then 49 else 343)
  | .mk cls As cs says Ap cp parts, deep, h, hd => by
    rw [valI] at h
    split at h
    · cases h
    · rename_i c hc
      split at h
      · cases h
      · rename_i hn
        simp only [Bool.and_eq_true] at h
        have hcg : getL (gramM l) cls = some c := by rw [getL_gram hg, hc]
        obtain ⟨hcl, hcn⟩ := gram_get hcg
        have hok := gram_cls hg c hcl
        have h2 := valL_cnt hg _ parts deep h.2 hd
        have h6 : parts.length ≤ 6 := by have := hok.most; omega
        refine ⟨by omega, .mk ⟨c, hcg, by rw [pl_says]; show says.length = _; omega, hok.few, fun t ht => isW_size (hok.tn t ht)⟩ (by rw [pl_cls]; show cls.size ≤ 16; rw [← hcn]; exact isW_size hok.name) (by rw [pl_says]; exact fun s hs => sz16 (says_sz _ _ hok.tv (by omega) h.1 s hs)) (by rw [pl_parts, List.length_map]; exact h6) (by rw [pl_parts, ← plL_map]; exact fun p hp => (h2.1 p hp)), ?_⟩
        rw [ItemV.pl, cntT]
        have h3 := h2.2
        by_cases e3 : deep = 3
        · rw [if_pos e3] at h3 ⊢; omega
        · by_cases e2 : deep = 2
          · rw [if_neg e3, if_pos e2] at h3 ⊢; omega
          · rw [if_neg e3, if_neg e2] at h3 ⊢; omega
theorem valL_cnt {l : List ClassV} (hg : gramOk l = true) (cp : List ByteArray) : ∀ (r : List ItemV) (deep : Int), valL l cp r deep = true → 1 ≤ deep → (∀ p ∈ plL r, OkT (gramM l) p) ∧ cntL (plL r) ≤ (if deep = 3 then 0 else if deep = 2 then 7 else 49) * r.length
  | [], _, _, _ => by rw [plL, cntL]; simp
  | p :: r, deep, h, hd => by
    rw [valL] at h
    simp only [Bool.and_eq_true] at h
    have h1 := val_cnt hg p (deep + 1) h.1.2 (by omega)
    have h2 := valL_cnt hg cp r deep h.2 hd
    rw [plL, cntL]
    refine ⟨fun q hq => ?_, ?_⟩
    · rcases List.mem_cons.1 hq with rfl | hq
      · exact h1.2.1
      · exact h2.1 q hq
    · have h3 := h1.2.2
      have h4 := h2.2
      rw [List.length_cons]
      by_cases e3 : deep = 3
      · omega
      · by_cases e2 : deep = 2
        · rw [if_neg e3, if_pos e2] at h4 ⊢; rw [if_pos (by omega)] at h3; omega
        · rw [if_neg e3, if_neg e2] at h4 ⊢; rw [if_neg (by omega), if_pos (by omega)] at h3; omega
end
mutual
/-- how deep a description is -/
def depT : IT → Nat
  | .mk _ _ parts => 1 + depL parts
def depL : List IT → Nat
  | [] => 0
  | p :: l => max (depT p) (depL l)
end
theorem depT_eq (x : IT) : depT x = 1 + depL x.parts := by obtain ⟨_, _, _⟩ := x; rw [depT]; rfl
theorem depL_le : ∀ (l : List IT) (p : IT), p ∈ l → depT p ≤ depL l
  | q :: l, p, h => by
    rw [depL]
    rcases List.mem_cons.1 h with rfl | h
    · omega
    · have := depL_le l p h; omega
mutual
theorem val_dep {l : List ClassV} : ∀ (x : ItemV) (deep : Int), valI l x deep = true → (depT x.pl : Int) + deep ≤ 4
  | .mk cls As cs says Ap cp parts, deep, h => by
    rw [valI] at h
    split at h
    · cases h
    · split at h
      · cases h
      · simp only [Bool.and_eq_true] at h
        have := valL_dep _ parts deep h.2
        rw [ItemV.pl, depT]; omega
theorem valL_dep {l : List ClassV} (cp : List ByteArray) : ∀ (r : List ItemV) (deep : Int), valL l cp r deep = true → (depL (plL r) : Int) + deep ≤ 3 ∨ depL (plL r) = 0
  | [], _, _ => .inr (by rw [plL, depL])
  | p :: r, deep, h => by
    rw [valL] at h
    simp only [Bool.and_eq_true] at h
    have h1 := val_dep p (deep + 1) h.1.2
    have h2 := valL_dep cp r deep h.2
    rw [plL, depL]; omega
end
/-! ### As the reference's text has it -/
theorem diff_V (a : Bool) (n m : Int) : (!a || (n != m)) = !(a && (n == m)) := by cases a <;> simp [bne]
def cls1R (c : ClassV) : Bool := (((((decide ((c.traits.length : Int) ≤ 8) && wordsB (c.traits.map (·.name))) && decide ((c.parts.length : Int) ≤ 12)) && wordsB c.parts) && (decide (0 ≤ c.most) && decide (c.most ≤ 6))) && ((c.most == 0) || decide (0 < (c.parts.length : Int))))
theorem traitOk_V (t : TraitV) : traitOk t = ((decide (1 ≤ (t.vals.length : Int)) && decide ((t.vals.length : Int) ≤ 8)) && wordsB t.vals) := by
  unfold traitOk
  cases (decide (1 ≤ (t.vals.length : Int)) && decide ((t.vals.length : Int) ≤ 8)) <;> cases wordsB t.vals <;> rfl
theorem class_ref {ns : List ByteArray} (h : ns.length ≤ 12) (c : ClassV) : ((cls1R c && c.traits.all traitOk) && c.parts.all (hasW ns)) = classOk ns c := by
  unfold classOk
  cases hp : c.parts.all (hasW ns) with
  | false => simp
  | true =>
    cases ht : c.traits.all traitOk with
    | false => simp
    | true =>
      cases hn : wordsB (c.traits.map (·.name)) with
      | false => unfold cls1R; rw [hn]; simp
      | true =>
        cases hw : wordsB c.parts with
        | false => unfold cls1R class1; rw [hw]; simp
        | true =>
          have h12 := words_few hw hp
          unfold cls1R class1
          rw [hn, hw]
          simp only [Bool.and_true]
          rw [Bool.eq_iff_iff]
          simp only [Bool.and_eq_true, Bool.or_eq_true, decide_eq_true_eq, beq_iff_eq, Bool.not_eq_true', Bool.or_eq_false_iff, Bool.and_eq_false_iff, decide_eq_false_iff_not, Bool.not_eq_false', bne, beq_eq_false_iff_ne, ne_eq, Bool.not_true, and_true]
          omega
theorem ok_end {ok : Bool} {n k : Nat} {r x : Bool} (h : (ok && decide ((k : Int) < (n : Nat))) = false) (hk : k ≤ n) (hr : n ≤ k → r = true) (hx : (ok && r) = x) : ok = x := by
  cases ok with
  | false => exact hx
  | true =>
    rw [Bool.true_and, decide_eq_false_iff_not] at h
    rw [← hx, hr (by omega)]; rfl
theorem firstS_neg (s : ByteArray) (l : List ByteArray) (n : Nat) : decide (firstS s l n < 0) = !(hasW l s) := by
  rw [← firstS_has s l n]
  by_cases h : 0 ≤ firstS s l n
  · rw [decide_eq_true h, decide_eq_false (by omega)]; rfl
  · rw [decide_eq_false h, decide_eq_true (by omega)]; rfl
theorem val_none {l : List ClassV} {x : ItemV} {deep : Int} (h : (((!((clsOf l x.cls).isSome) || decide (3 < deep)) || ((x.says.length : Int) != (((clsOf l x.cls).getD zC).traits.length : Int))) || decide (((clsOf l x.cls).getD zC).most < (x.parts.length : Int))) = true) : valI l x deep = false := by
  rw [valI_eq]
  cases hc : clsOf l x.cls with
  | none => rfl
  | some c =>
    rw [hc] at h
    simp only [Option.isSome_some, Option.getD_some, Bool.not_true, Bool.false_or, Bool.or_eq_true, decide_eq_true_eq, bne_iff_ne, ne_eq] at h
    simp only
    rw [if_pos (by omega)]
theorem val_some {l : List ClassV} {x : ItemV} {deep : Int} (h : (((!((clsOf l x.cls).isSome) || decide (3 < deep)) || ((x.says.length : Int) != (((clsOf l x.cls).getD zC).traits.length : Int))) || decide (((clsOf l x.cls).getD zC).most < (x.parts.length : Int))) = false) :
    ∃ c, clsOf l x.cls = some c ∧ c ∈ l ∧ deep ≤ 3 ∧ x.says.length = c.traits.length ∧ valI l x deep = (saysOk c.traits x.says && valL l c.parts x.parts deep) := by
  rw [valI_eq]
  cases hc : clsOf l x.cls with
  | none => rw [hc] at h; simp at h
  | some c =>
    rw [hc] at h
    simp only [Option.isSome_some, Option.getD_some, Bool.not_true, Bool.false_or, Bool.or_eq_false_iff, decide_eq_false_iff_not, bne_eq_false_iff_eq] at h
    refine ⟨c, rfl, List.mem_of_find?_eq_some hc, by omega, by omega, ?_⟩
    simp only
    rw [if_neg (by omega)]
mutual
theorem sd_bd {g : List (ByteArray × ClassV)} : ∀ x : IT, OkT g x → 0 ≤ sdT x ∧ sdT x ≤ 8 * cntT x
  | .mk cls says parts, h => by
    obtain ⟨c, _, h1, h2, _⟩ := h.get
    simp only [IT.says] at h1
    have h3 := saidN_bd says
    have h4 := sdL_bd parts h.pt
    rw [sdT, cntT]; omega
theorem sdL_bd {g : List (ByteArray × ClassV)} : ∀ l : List IT, (∀ p ∈ l, OkT g p) → 0 ≤ sdL l ∧ sdL l ≤ 8 * cntL l
  | [], _ => by rw [sdL, cntL]; omega
  | p :: l, h => by
    have h1 := sd_bd p (h p (List.mem_cons_self ..))
    have h2 := sdL_bd l (fun q hq => h q (List.mem_cons_of_mem _ hq))
    rw [sdL, cntL]; omega
end
theorem cntL_drop (l : List ItemV) (k : Nat) (q : ItemV) (h : l[k]? = some q) : cntL (plL (l.drop k)) = cntT q.pl + cntL (plL (l.drop (k + 1))) ∧ sdL (plL (l.drop k)) = sdT q.pl + sdL (plL (l.drop (k + 1))) := by
  obtain ⟨h1, h2⟩ := List.getElem?_eq_some_iff.1 h
  rw [List.drop_eq_getElem_cons h1, h2, plL, cntL, sdL]; exact ⟨rfl, rfl⟩
theorem ask_r1 {l : List ClassV} (x : ItemV) (h : gramOk l = false) : askIE l [x] = 10 := by rw [askIE, h]; rfl
theorem ask_r2 {l : List ClassV} {x : ItemV} (h : gramOk l = true) (hv : valI l x 1 = false) : askIE l [x] = 11 := by
  simp [askIE, h, itemOk_ref h, hv]
theorem ask_r3 {l : List ClassV} {x : ItemV} (h : gramOk l = true) (hc : ¬ cntT x.pl ≤ 24) : askIE l [x] = 11 := by
  simp [askIE, h, itemOk_ref h, hc]
theorem ask_r4 {l : List ClassV} {x : ItemV} (h : gramOk l = true) (hv : valI l x 1 = true) (hc : cntT x.pl ≤ 24) : askIE l [x] = 0 := by
  simp [askIE, h, itemOk_ref h, hv, hc]
theorem gram_0 {l : List ClassV} (h : (gramE l != 0) = false) : gramOk l = true := by
  unfold gramE at h; cases h1 : gramOk l <;> simp [h1] at h ⊢
theorem gram_n {l : List ClassV} (h : (gramE l != 0) = true) : gramOk l = false := by
  unfold gramE at h; cases h1 : gramOk l <;> simp [h1] at h ⊢
theorem gram_12 {l : List ClassV} (h : gramOk l = true) : l.length ≤ 12 := by
  simp only [gramOk, Bool.and_eq_true, decide_eq_true_eq] at h
  omega
end Go.Proofs.YtlfbghkcfmcnlaaGreatDoor
namespace Go.Proofs.YtlfbghkcfmcnlaaGreatDoor
open Go.Sx Go.RowKit

/-! ### Assigning parts -/
/-- the places of a row from one on, tried one after the other -/
def tryR (f : Nat → Bool) : List Bool → Nat → List Int → Bool
  | [], _, _ => false
  | c :: cs, k, used => ((decide (seek used k 0 < 0) && c) && f k) || tryR f cs (k + 1) used
def asR : List (List Bool) → List Int → Bool
  | [], _ => true
  | row :: rest, used => tryR (fun k => asR rest (used ++ [(k : Int)])) row 0 used
theorem tryR_drop (f : Nat → Bool) (row : List Bool) (k : Nat) (c : Bool) (used : List Int) (h : row[k]? = some c) : tryR f (row.drop k) k used = (((decide (seek used k 0 < 0) && c) && f k) || tryR f (row.drop (k + 1)) (k + 1) used) := by
  obtain ⟨h1, h2⟩ := List.getElem?_eq_some_iff.1 h
  rw [List.drop_eq_getElem_cons h1, h2, tryR]
theorem seek_neg (l : List Int) (n : Int) : ∀ i : Int, 0 ≤ i → (decide (seek l n i < 0) = !(hasI l n)) := by
  induction l with
  | nil => intro i _; rfl
  | cons x l ih =>
    intro i hi
    rw [seek]
    show _ = !(decide (x = n) || hasI l n)
    by_cases h : x = n
    · rw [if_pos h, decide_eq_true h]; simp; exact hi
    · rw [if_neg h, decide_eq_false h, Bool.false_or, ih (i + 1) (by omega)]
/-- flags and a list of numbers tell the same places -/
def flag (n : Nat) (us : List Bool) (used : List Int) : Prop := us.length = n ∧ ∀ k, k < n → us.getD k false = hasI used (k : Int)
theorem flag_set {n : Nat} {us : List Bool} {used : List Int} (h : flag n us used) {k : Nat} (hk : k < n) : flag n (us.set k true) (used ++ [(k : Int)]) := by
  refine ⟨by simp [h.1], fun j hj => ?_⟩
  rw [List.getD_eq_getElem?_getD, List.getElem?_set]
  have e : hasI (used ++ [(k : Int)]) (j : Int) = (hasI used (j : Int) || decide (k = j)) := by
    unfold hasI
    rw [List.any_append, List.any_cons, List.any_nil, Bool.or_false]
    congr 1
    by_cases h : k = j
    · rw [decide_eq_true h]; exact decide_eq_true (by omega)
    · rw [decide_eq_false h]; exact decide_eq_false (by omega)
  rw [e]
  by_cases hkj : k = j
  · rw [if_pos hkj, if_pos (by rw [h.1]; omega), decide_eq_true hkj, Bool.or_true]; rfl
  · rw [if_neg hkj, decide_eq_false hkj, Bool.or_false, ← h.2 j hj, List.getD_eq_getElem?_getD]
theorem set_back {us : List Bool} {k : Nat} (h : us.getD k false = false) : (us.set k true).set k false = us := by
  rw [List.set_set]
  refine List.ext_getElem? fun j => ?_
  rw [List.getElem?_set]
  by_cases e : k = j
  · subst e
    rw [if_pos rfl]
    rw [List.getD_eq_getElem?_getD] at h
    by_cases hl : k < us.length
    · rw [if_pos hl, List.getElem?_eq_getElem hl] at *
      simp only [Option.getD_some] at h
      rw [h]
    · rw [if_neg hl, List.getElem?_eq_none (by omega)]
  · rw [if_neg e]
theorem scan_ref (n : Nat) (f : List Bool → Bool × List Bool) (F : Nat → Bool) (us : List Bool) (used : List Int) (hu : flag n us used)
    (hf : ∀ k, k < n → us.getD k false = false → (f (us.set k true)).1 = F k ∧ ((f (us.set k true)).1 = false → (f (us.set k true)).2 = us.set k true)) :
    ∀ (cs : List Bool) (k : Nat), k + cs.length = n → (scanA f cs k us).1 = tryR F cs k used ∧ ((scanA f cs k us).1 = false → (scanA f cs k us).2 = us)
  | [], k, _ => ⟨rfl, fun _ => rfl⟩
  | c :: cs, k, hk => by
    rw [List.length_cons] at hk
    have hn : decide (seek used (k : Int) 0 < 0) = !(us.getD k false) := by rw [seek_neg used k 0 (by omega), hu.2 k (by omega)]
    have ih := scan_ref n f F us used hu hf cs (k + 1) (by omega)
    rw [scanA, tryR, hn]
    cases h1 : us.getD k false with
    | true => simpa using ih
    | false =>
      cases c with
      | false => simpa using ih
      | true =>
        have h2 := hf k (by omega) h1
        simp only [Bool.not_true, Bool.or_false, Bool.false_eq_true, if_false, Bool.not_false, Bool.true_and]
        cases h3 : (f (us.set k true)).1 with
        | true => rw [if_pos rfl, ← h2.1, h3]; exact ⟨rfl, fun h => by cases h⟩
        | false => rw [if_neg (by simp), h2.2 h3, set_back h1, ← h2.1, h3, Bool.false_or]; exact ih
theorem asg_ref (n : Nat) : ∀ (rows : List (List Bool)) (us : List Bool) (used : List Int), (∀ r ∈ rows, r.length = n) → flag n us used → (asg rows us).1 = asR rows used ∧ ((asg rows us).1 = false → (asg rows us).2 = us)
  | [], us, used, _, _ => ⟨rfl, fun h => by cases h⟩
  | row :: rest, us, used, hr, hu => by
    rw [asg, asR]
    exact scan_ref n _ _ us used hu (fun k hk _ => asg_ref n rest (us.set k true) (used ++ [(k : Int)]) (fun r h => hr r (List.mem_cons_of_mem _ h)) (flag_set hu hk)) row 0 (by rw [Nat.zero_add]; exact hr row (List.mem_cons_self ..))
theorem covRows_len : ∀ (l bs : List ItemV), ∀ r ∈ covRows l bs, r.length = bs.length
  | [], _ => by simp [covRows]
  | p :: l, bs => by
    intro r hr
    rw [covRows] at hr
    rcases List.mem_cons.1 hr with rfl | hr
    · simp
    · exact covRows_len l bs r hr
theorem asg_cov (l bs : List ItemV) : (asg (covRows l bs) (List.replicate bs.length false)).1 = asR (covRows l bs) [] :=
  (asg_ref bs.length _ _ [] (covRows_len l bs) ⟨by simp, fun k hk => by rw [List.getD_eq_getElem?_getD, List.getElem?_replicate, if_pos hk]; rfl⟩).1
theorem covI_ref (a b : ItemV) : covI a b = (decide (a.cls = b.cls) && (saysCov a.says b.says && asR (covRows a.parts b.parts) [])) := by rw [covI_eq, asg_cov]

/-! ### Putting an item where it belongs -/
theorem ltS_eq (a b : ByteArray) : ltS a b = decide (a.data.toList < b.data.toList) := by unfold ltS; exact bytesLess_eq _ _
theorem ltS_tr {a b c : ByteArray} (h1 : ltS a b = true) (h2 : ltS c b = false) : ltS a c = true := by
  rw [ltS_eq] at *
  have h3 := of_decide_eq_true h1
  have h4 := of_decide_eq_false h2
  refine decide_eq_true (Classical.byContradiction fun h5 => h4 (List.lt_of_le_of_lt (List.not_lt.1 h5) h3))
theorem ltS_irr (a : ByteArray) : ltS a a = false := by rw [ltS_eq]; exact decide_eq_false (List.lt_irrefl _)
theorem ltS_asy {a b : ByteArray} (h : ltS a b = true) : ltS b a = false := by
  rw [ltS_eq] at *
  exact decide_eq_false (fun h2 => List.lt_asymm (of_decide_eq_true h) h2)
section
variable {α : Type} (lt : α → α → Bool)
/-- from the left: behind all that do not come behind it -/
def insF (x : α) : List α → Nat → Nat
  | [], k => k
  | y :: l, k => if lt x y then k else insF x l (k + 1)
def insL (P : List α) (x : α) : List α := P.take (insF lt x P 0) ++ x :: P.drop (insF lt x P 0)
def lsort : List α → List α → List α
  | P, [] => P
  | P, x :: l => lsort (insL lt P x) l
theorem insF_drop (x : α) (P : List α) (k : Nat) (y : α) (h : P[k]? = some y) : insF lt x (P.drop k) k = if lt x y then k else insF lt x (P.drop (k + 1)) (k + 1) := by
  obtain ⟨h1, h2⟩ := List.getElem?_eq_some_iff.1 h
  rw [List.drop_eq_getElem_cons h1, h2, insF]
/-- in order: what is on the left does not come behind -/
def InOrd (P : List α) : Prop := P.Pairwise (fun a b => lt b a = false)
structure Weak : Prop where
  tr : ∀ a b c, lt a b = true → lt c b = false → lt a c = true
  asy : ∀ a b, lt a b = true → lt b a = false
variable {lt}
theorem insF_ge (x : α) : ∀ (l : List α) (k : Nat), k ≤ insF lt x l k ∧ insF lt x l k ≤ k + l.length
  | [], k => by simp [insF]
  | y :: l, k => by
    rw [insF]; split
    · simp
    · have := insF_ge x l (k + 1); simp only [List.length_cons]; omega
/-- the place from the left, told from the right -/
theorem insAt_L (hw : Weak lt) (x : α) : ∀ (P : List α), InOrd lt P → ∀ j, j ≤ P.length → (∀ y ∈ P.drop j, lt x y = true) → insAt lt P x j = insL lt P x := by
  intro P hP j
  have key : ∀ (l : List α) (k : Nat), InOrd lt l → (∀ i, i < l.length → (i < insF lt x l k - k ↔ lt x (l.getD i x) = false)) := by
    intro l
    induction l with
    | nil => intro k _ i hi; simp at hi
    | cons y l ih =>
      intro k hl i hi
      unfold InOrd at hl
      rw [List.pairwise_cons] at hl
      rw [insF]
      split
      · rename_i h
        cases i with
        | zero => simp [h]
        | succ i =>
          have hm : l.getD i x ∈ l := by rw [List.getD_eq_getElem?_getD, List.getElem?_eq_getElem (by simpa using hi)]; exact List.getElem_mem _
          have h2 := hl.1 _ hm
          have h3 := hw.tr x y (l.getD i x) h h2
          simp only [List.getD_cons_succ, h3]; simp
      · rename_i h
        have hge := (insF_ge (lt := lt) x l (k + 1)).1
        cases i with
        | zero => simp only [List.getD_cons_zero]; simp only [h, iff_true]; omega
        | succ i =>
          have := ih (k + 1) hl.2 i (by simpa using hi)
          simp only [List.getD_cons_succ]
          rw [← this]; omega
  have hk := key P 0 hP
  have hle := (insF_ge (lt := lt) x P 0).2
  induction j with
  | zero =>
    intro _ hd
    rw [insAt, insL]
    have h0 : insF lt x P 0 = 0 := by
      cases P with
      | nil => rfl
      | cons y P => rw [insF, if_pos (hd y (by simp))]
    rw [h0]; rfl
  | succ j ih =>
    intro hj hd
    have h1 : P[j]? = some P[j] := List.getElem?_eq_getElem (by omega)
    have hg : P.getD j x = P[j] := by rw [List.getD_eq_getElem?_getD, h1]; rfl
    rw [insAt, h1]
    simp only
    split
    · rename_i h
      exact ih (by omega) (fun y hy => by
        rw [List.drop_eq_getElem_cons (show j < P.length by omega)] at hy
        rcases List.mem_cons.1 hy with rfl | hy
        · exact h
        · exact hd y hy)
    · rename_i h
      have h2 := (hk j (by omega)).2 (by rw [hg]; simpa using h)
      have h3 : insF lt x P 0 = j + 1 := by
        by_cases h4 : j + 1 < insF lt x P 0
        · have h5 : j + 1 < P.length := by omega
          have h6 := (hk (j + 1) h5).1 (by omega)
          have h7 : lt x (P.getD (j + 1) x) = true := hd _ (by
            rw [List.getD_eq_getElem?_getD, List.getElem?_eq_getElem h5, List.drop_eq_getElem_cons h5]; exact List.mem_cons_self ..)
          rw [h7] at h6; cases h6
        · omega
      rw [insL, h3]
theorem insL_ord (hw : Weak lt) (P : List α) (x : α) (hP : InOrd lt P) : InOrd lt (insL lt P x) := by
  have key : ∀ (l : List α) (k : Nat), InOrd lt l → (∀ y ∈ l.take (insF lt x l k - k), lt x y = false) ∧ (∀ y ∈ l.drop (insF lt x l k - k), lt x y = true) := by
    intro l
    induction l with
    | nil => intro k _; simp
    | cons y l ih =>
      intro k hl
      unfold InOrd at hl
      rw [List.pairwise_cons] at hl
      rw [insF]
      split
      · rename_i h
        rw [Nat.sub_self]
        refine ⟨by simp, fun z hz => ?_⟩
        rcases List.mem_cons.1 hz with rfl | hz
        · exact h
        · exact hw.tr x y z h (hl.1 z hz)
      · rename_i h
        have hge := (insF_ge (lt := lt) x l (k + 1)).1
        have := ih (k + 1) hl.2
        rw [show insF lt x l (k + 1) - k = (insF lt x l (k + 1) - (k + 1)) + 1 by omega, List.take_succ_cons, List.drop_succ_cons]
        refine ⟨fun z hz => ?_, this.2⟩
        rcases List.mem_cons.1 hz with rfl | hz
        · simpa using h
        · exact this.1 z hz
  have hk := key P 0 hP
  rw [Nat.sub_zero] at hk
  unfold insL InOrd
  have hP2 : (P.take (insF lt x P 0) ++ P.drop (insF lt x P 0)).Pairwise (fun a b => lt b a = false) := by rw [List.take_append_drop]; exact hP
  rw [List.pairwise_append] at hP2 ⊢
  refine ⟨hP2.1, List.pairwise_cons.2 ⟨fun y hy => hw.asy _ _ (hk.2 y hy), hP2.2.1⟩, fun a ha b hb => ?_⟩
  rcases List.mem_cons.1 hb with rfl | hb
  · exact hk.1 a ha
  · exact hP2.2.2 a ha b hb
theorem isort_L (hw : Weak lt) : ∀ (l P : List α), InOrd lt P → isort lt P l = lsort lt P l ∧ InOrd lt (isort lt P l)
  | [], P, hP => ⟨rfl, hP⟩
  | x :: l, P, hP => by
    rw [isort, lsort, insAt_L hw x P hP P.length (Nat.le_refl _) (by simp)]
    exact isort_L hw l _ (insL_ord hw P x hP)
end
theorem insAt_perm0 {α : Type} (lt : α → α → Bool) (P : List α) (x : α) : ∀ j, (insAt lt P x j).Perm (x :: P)
  | 0 => .refl _
  | j + 1 => by
    have h : (P.take (j + 1) ++ x :: P.drop (j + 1)).Perm (x :: P) := by
      refine List.perm_middle.trans (.cons x ?_)
      rw [List.take_append_drop]
    rw [insAt]
    split
    · split
      · exact insAt_perm0 lt P x j
      · exact h
    · exact h
theorem isort_perm0 {α : Type} (lt : α → α → Bool) : ∀ l P : List α, (isort lt P l).Perm (P ++ l)
  | [], P => by rw [isort, List.append_nil]
  | x :: l, P => by
    rw [isort]
    refine (isort_perm0 lt l _).trans ?_
    refine ((insAt_perm0 lt P x _).append_right l).trans ?_
    rw [List.cons_append]
    exact List.perm_middle.symm
theorem insF_map {α β : Type} (f : α → β) (lt : β → β → Bool) (x : α) : ∀ (l : List α) (k : Nat), insF (fun a b => lt (f a) (f b)) x l k = insF lt (f x) (l.map f) k
  | [], _ => rfl
  | y :: l, k => by rw [insF, List.map_cons, insF, insF_map f lt x l]
theorem insL_map {α β : Type} (f : α → β) (lt : β → β → Bool) (P : List α) (x : α) : (insL (fun a b => lt (f a) (f b)) P x).map f = insL lt (P.map f) (f x) := by
  unfold insL
  rw [insF_map, List.map_append, List.map_cons, List.map_take, List.map_drop]
theorem lsort_append {α : Type} (lt : α → α → Bool) : ∀ (l P : List α) (x : α), lsort lt P (l ++ [x]) = insL lt (lsort lt P l) x
  | [], P, x => rfl
  | y :: l, P, x => by rw [List.cons_append, lsort, lsort_append lt l, lsort]
theorem ltT_weak (g : List (ByteArray × ClassV)) : Weak (ltT g) := ⟨fun _ _ _ h1 h2 => ltS_tr h1 h2, fun _ _ h => ltS_asy h⟩
theorem sortT_L (g : List (ByteArray × ClassV)) (x : IT) : sortT g x = .mk x.cls x.says (lsort (ltT g) [] (x.parts.map (sortT g))) := by
  rw [sortT_eq, (isort_L (ltT_weak g) _ [] List.Pairwise.nil).1]

/-! ### The text, put together piece by piece -/
/-- a blank before each -/
def bl : List ByteArray → ByteArray
  | [] => ⟨#[]⟩
  | s :: l => tBl ++ (s ++ bl l)
theorem ba_nil (s : ByteArray) : s ++ (⟨#[]⟩ : ByteArray) = s := ByteArray.append_empty
theorem nil_ba (s : ByteArray) : (⟨#[]⟩ : ByteArray) ++ s = s := ByteArray.empty_append
theorem bl_append : ∀ a b : List ByteArray, bl (a ++ b) = bl a ++ bl b
  | [], b => by rw [List.nil_append, bl]; exact ByteArray.empty_append.symm
  | s :: a, b => by rw [List.cons_append, bl, bl, bl_append a b, ByteArray.append_assoc, ByteArray.append_assoc]
theorem ba_ext {a b : ByteArray} (h : a.data.toList = b.data.toList) : a = b := by
  cases a; cases b; congr 1; exact Array.toList_inj.1 h
theorem ba_app (a b : ByteArray) : (a ++ b).data.toList = a.data.toList ++ b.data.toList := by simp
theorem jn_bl (s : ByteArray) : ∀ l : List ByteArray, jn (s :: l) = s ++ bl l := by
  intro l
  refine ba_ext ?_
  induction l generalizing s with
  | nil => rw [bl]; simp [jn, List.intercalate]
  | cons t l ih =>
    have := ih t
    rw [ba_app, bl, ba_app, ba_app]
    rw [ba_app] at this
    rw [← this]
    simp [jn, List.intercalate]
theorem tok_bl (g : List (ByteArray × ClassV)) (x : IT) : bl (tokT g x) = tBl ++ txtT g x := by
  unfold txtT
  obtain ⟨s, l, h⟩ : ∃ s l, tokT g x = s :: l := by
    cases h : tokT g x with
    | nil => exact absurd h (tok_ne g x)
    | cons s l => exact ⟨s, l, rfl⟩
  rw [h, jn_bl, bl]
theorem txt_eq (g : List (ByteArray × ClassV)) (x : IT) : txtT g x = x.cls ++ (bl (saidTok (traitsOf g x.cls) x.says) ++ (bl (tokP g true x.parts) ++ bl (if x.parts.length = 0 then [] else [tClose]))) := by
  unfold txtT
  rw [tokT_eq, List.cons_append, jn_bl, bl_append, bl_append]
theorem ask2_1 {l : List ClassV} {a : ItemV} (b : ItemV) (h : (askIE l [a] != 0) = true) : askIE l [a, b] = askIE l [a] ∧ CovT l a b = false := by
  have h0 := askIE_no h
  unfold askIE at h ⊢
  unfold CovT
  unfold askIOk at h0 ⊢
  cases h1 : gramOk l <;> cases h2 : itemOk l a <;> simp [h1, h2] at h h0 ⊢
theorem ask2_2 {l : List ClassV} {a b : ItemV} (h : (askIE l [a] != 0) = false) (h' : (askIE l [b] != 0) = true) : askIE l [a, b] = askIE l [b] ∧ CovT l a b = false := by
  have h0 := askIE_ok h
  have h1 := askIE_no h'
  unfold askIE
  unfold CovT
  unfold askIOk at h0 h1 ⊢
  cases e1 : gramOk l <;> cases e2 : itemOk l a <;> cases e3 : itemOk l b <;> simp [e1, e2, e3] at h0 h1 ⊢
theorem ask2_3 {l : List ClassV} {a b : ItemV} (h : (askIE l [a] != 0) = false) (h' : (askIE l [b] != 0) = false) : askIE l [a, b] = 0 ∧ askIOk l [a, b] = true := by
  have h0 := askIE_ok h
  have h1 := askIE_ok h'
  unfold askIE
  unfold askIOk at h0 h1 ⊢
  cases e1 : gramOk l <;> cases e2 : itemOk l a <;> cases e3 : itemOk l b <;> simp [e1, e2, e3] at h0 h1 ⊢
theorem or_step {p r x : Bool} (h : (p || r) = x) (hp : p = false) : r = x := by rw [hp, Bool.false_or] at h; exact h
/-- bytes in order, one after the other -/
def bsl : List UInt8 → List UInt8 → Bool
  | [], [] => false
  | [], _ :: _ => true
  | _ :: _, [] => false
  | a :: x, b :: y => if a = b then bsl x y else decide (a < b)
theorem bsl_lt : ∀ x y : List UInt8, bsl x y = decide (x < y)
  | [], [] => by rw [bsl]; exact (decide_eq_false (List.lt_irrefl _)).symm
  | [], b :: y => by rw [bsl]; exact (decide_eq_true (List.nil_lt_cons b y)).symm
  | a :: x, [] => by rw [bsl]; exact (decide_eq_false (List.not_lt_nil _)).symm
  | a :: x, b :: y => by
    rw [bsl, bsl_lt x y]
    by_cases h : a = b
    · subst h
      rw [if_pos rfl]
      by_cases h2 : x < y
      · rw [decide_eq_true h2, decide_eq_true (List.cons_lt_cons_iff.2 (.inr ⟨rfl, h2⟩))]
      · rw [decide_eq_false h2, decide_eq_false]
        intro h3
        rcases List.cons_lt_cons_iff.1 h3 with h4 | h4
        · exact UInt8.lt_irrefl _ h4
        · exact h2 h4.2
    · rw [if_neg h]
      by_cases h2 : a < b
      · rw [decide_eq_true h2, decide_eq_true (List.cons_lt_cons_iff.2 (.inl h2))]
      · rw [decide_eq_false h2, decide_eq_false]
        intro h3
        rcases List.cons_lt_cons_iff.1 h3 with h4 | h4
        · exact h2 h4
        · exact h h4.1
theorem bsl_S (a b : ByteArray) : bsl (bsOf a) (bsOf b) = ltS a b := by rw [bsl_lt, ltS_eq]
theorem bsl_drop (x y : List UInt8) (k : Nat) (a b : UInt8) (ha : x[k]? = some a) (hb : y[k]? = some b) : bsl (x.drop k) (y.drop k) = if a = b then bsl (x.drop (k + 1)) (y.drop (k + 1)) else decide (a < b) := by
  obtain ⟨h1, h2⟩ := List.getElem?_eq_some_iff.1 ha
  obtain ⟨h3, h4⟩ := List.getElem?_eq_some_iff.1 hb
  rw [List.drop_eq_getElem_cons h1, h2, List.drop_eq_getElem_cons h3, h4, bsl]
theorem bsl_end (x y : List UInt8) (k : Nat) (hx : k ≤ x.length) (hy : k ≤ y.length) (h : x.length ≤ k ∨ y.length ≤ k) : bsl (x.drop k) (y.drop k) = decide ((x.length : Int) < y.length) := by
  by_cases h1 : x.length ≤ k
  · rw [List.drop_of_length_le h1]
    by_cases h2 : y.length ≤ k
    · rw [List.drop_of_length_le h2, decide_eq_false (by omega)]; rfl
    · rw [List.drop_eq_getElem_cons (by omega : k < y.length), decide_eq_true (by omega)]; rfl
  · rw [List.drop_of_length_le (show y.length ≤ k by omega), List.drop_eq_getElem_cons (by omega : k < x.length), decide_eq_false (by omega)]; rfl
theorem u8_ne (a b : UInt8) : (((a.toNat : Int) != (b.toNat : Int)) = !decide (a = b)) := by
  by_cases h : a = b
  · subst h; simp
  · rw [decide_eq_false h]
    simp only [Bool.not_false, bne_iff_ne, ne_eq]
    intro e
    exact h (UInt8.toNat_inj.1 (by omega))
theorem u8_lt (a b : UInt8) : decide ((a.toNat : Int) < (b.toNat : Int)) = decide (a < b) := by
  by_cases h : a < b
  · rw [decide_eq_true h, decide_eq_true]
    have := UInt8.lt_iff_toNat_lt.1 h; omega
  · rw [decide_eq_false h, decide_eq_false]
    intro e
    exact h (UInt8.lt_iff_toNat_lt.2 (by omega))
theorem insF_stop {α : Type} (lt : α → α → Bool) (x : α) (P : List α) (d : α) (j : Nat) (hj : j ≤ P.length) (h : insF lt x (P.drop j) j = insF lt x P 0) (hs : (decide ((j : Int) < (P.length : Nat)) && !(lt x (P.getD j d))) = false) : insF lt x P 0 = j := by
  rw [← h]
  by_cases h1 : j < P.length
  · have h2 : P[j]? = some (P.getD j d) := by rw [List.getD_eq_getElem?_getD, List.getElem?_eq_getElem h1]; rfl
    rw [decide_eq_true (by omega), Bool.true_and] at hs
    rw [insF_drop lt x P j _ h2, if_pos (by simpa using hs)]
  · rw [List.drop_of_length_le (by omega), insF]
theorem insF_go {α : Type} (lt : α → α → Bool) (x : α) (P : List α) (d : α) (j : Nat) (h1 : j < P.length) (h : insF lt x (P.drop j) j = insF lt x P 0) (hs : lt x (P.getD j d) = false) : insF lt x (P.drop (j + 1)) (j + 1) = insF lt x P 0 := by
  have h2 : P[j]? = some (P.getD j d) := by rw [List.getD_eq_getElem?_getD, List.getElem?_eq_getElem h1]; rfl
  rw [insF_drop lt x P j _ h2, if_neg (by rw [hs]; simp)] at h; exact h
theorem bl_cons (s : ByteArray) (l : List ByteArray) : bl (s :: l) = tBl ++ (s ++ bl l) := rfl
theorem lsort_map_snoc (g : List (ByteArray × ClassV)) (ys : List ItemV) (y : ItemV) (zs : List IT) (h : ys.map ItemV.pl = lsort (ltT g) [] zs) : (insL (ltV g) ys y).map ItemV.pl = lsort (ltT g) [] (zs ++ [y.pl]) := by
  rw [lsort_append, ← h]
  exact insL_map ItemV.pl (ltT g) ys y
mutual
theorem dep_sort (g : List (ByteArray × ClassV)) : ∀ x : IT, depT (sortT g x) = depT x
  | .mk cls says parts => by
    rw [sortT_eq, depT, depT]
    show 1 + depL (isort (ltT g) [] (parts.map (sortT g))) = 1 + depL parts
    have h1 : ∀ a b : List IT, a.Perm b → depL a = depL b := by
      intro a b h
      induction h with
      | nil => rfl
      | cons x _ ih => rw [depL, depL, ih]
      | swap x y l => rw [depL, depL, depL, depL]; omega
      | trans _ _ h1 h2 => rw [h1, h2]
    have p1 := isort_perm0 (ltT g) (parts.map (sortT g)) []
    rw [List.nil_append] at p1
    rw [h1 _ _ p1, dep_sortL g parts]
theorem dep_sortL (g : List (ByteArray × ClassV)) : ∀ l : List IT, depL (l.map (sortT g)) = depL l
  | [] => rfl
  | p :: l => by rw [List.map_cons, depL, depL, dep_sort g p, dep_sortL g l]
end
theorem srt_dep {l : List ClassV} (x : ItemV) : depT (SrtT l x) ≤ 4 := by
  unfold SrtT
  cases h : askIOk l [x] with
  | false => exact (show depT zIT ≤ 4 by decide)
  | true =>
    show depT (sortT _ _) ≤ 4
    rw [dep_sort]
    simp only [askIOk, Bool.and_eq_true, List.all_eq_true] at h
    have h1 := h.2 x (by simp)
    rw [itemOk_ref h.1, Bool.and_eq_true] at h1
    have := val_dep x 1 h1.1
    omega
end Go.Proofs.YtlfbghkcfmcnlaaGreatDoor
namespace Go.Proofs.YtlfbghkcfmcnlaaGreatDoor
open Go.Sx Go.RowKit

/-- a class's names are words, and different; what is said is a word, or nothing -/
inductive OkN (g : List (ByteArray × ClassV)) : IT → Prop
  | mk {x : IT} (hc : isW x.cls = true) (h : x.says.length = (traitsOf g x.cls).length) (hw : ∀ t ∈ traitsOf g x.cls, isW t.name = true) (hn : ((traitsOf g x.cls).map (·.name)).Nodup) (hs : ∀ s ∈ x.says, s = ⟨#[]⟩ ∨ isW s = true) (hr : ∀ p ∈ x.parts, OkN g p) : OkN g x
theorem OkN.cls {g : List (ByteArray × ClassV)} {x : IT} (h : OkN g x) : isW x.cls = true := by cases h; assumption
theorem OkN.len {g : List (ByteArray × ClassV)} {x : IT} (h : OkN g x) : x.says.length = (traitsOf g x.cls).length := by cases h; assumption
theorem OkN.tw {g : List (ByteArray × ClassV)} {x : IT} (h : OkN g x) : ∀ t ∈ traitsOf g x.cls, isW t.name = true := by cases h; assumption
theorem OkN.tn {g : List (ByteArray × ClassV)} {x : IT} (h : OkN g x) : ((traitsOf g x.cls).map (·.name)).Nodup := by cases h; assumption
theorem OkN.sw {g : List (ByteArray × ClassV)} {x : IT} (h : OkN g x) : ∀ s ∈ x.says, s = ⟨#[]⟩ ∨ isW s = true := by cases h; assumption
theorem OkN.pt {g : List (ByteArray × ClassV)} {x : IT} (h : OkN g x) : ∀ p ∈ x.parts, OkN g p := by cases h; assumption
mutual
theorem val_N {l : List ClassV} (hg : gramOk l = true) : ∀ (x : ItemV) (deep : Int), valI l x deep = true → OkN (gramM l) x.pl
  | .mk cls As cs says Ap cp parts, deep, h => by
    rw [valI] at h
    split at h
    · cases h
    · rename_i c hc
      split at h
      · cases h
      · rename_i hn
        simp only [Bool.and_eq_true] at h
        have hcg : getL (gramM l) cls = some c := by rw [getL_gram hg, hc]
        obtain ⟨hcl, hcn⟩ := gram_get hcg
        have hok := gram_cls hg c hcl
        have htr : traitsOf (gramM l) cls = c.traits := by unfold traitsOf; rw [hcg]; rfl
        have hnd : (c.traits.map (·.name)).Nodup := by
          simp only [gramOk, Bool.and_eq_true, List.all_eq_true] at hg
          have h1 := hg.2.2 c hcl
          simp only [classOk, Bool.and_eq_true] at h1
          exact words_nd h1.2.2.2
        refine .mk (by rw [pl_cls]; show isW cls = true; rw [← hcn]; exact hok.name) (by rw [pl_says, pl_cls]; show says.length = (traitsOf _ cls).length; rw [htr]; omega) ?_ ?_ ?_ ?_
        · rw [pl_cls]; show ∀ t ∈ traitsOf _ cls, _; rw [htr]; exact hok.tn
        · rw [pl_cls]; show ((traitsOf _ cls).map _).Nodup; rw [htr]; exact hnd
        · rw [pl_says]; exact says_sz _ _ hok.tv (by show says.length ≤ _; omega) h.1
        · rw [pl_parts, ← plL_map]; exact valL_N hg _ parts deep h.2
theorem valL_N {l : List ClassV} (hg : gramOk l = true) (cp : List ByteArray) : ∀ (r : List ItemV) (deep : Int), valL l cp r deep = true → ∀ p ∈ plL r, OkN (gramM l) p
  | [], _, _ => by simp [plL]
  | p :: r, deep, h => by
    rw [valL] at h
    simp only [Bool.and_eq_true] at h
    have h1 := val_N hg p (deep + 1) h.1.2
    have h2 := valL_N hg cp r deep h.2
    intro q hq
    rw [plL] at hq
    rcases List.mem_cons.1 hq with rfl | hq
    · exact h1
    · exact h2 q hq
end
theorem ask_N {l : List ClassV} {xs : List ItemV} (h : askIOk l xs = true) : ∀ x ∈ xs, OkN (gramM l) x.pl := by
  intro x hx
  simp only [askIOk, Bool.and_eq_true, List.all_eq_true] at h
  have h1 := h.2 x hx
  rw [itemOk_ref h.1, Bool.and_eq_true] at h1
  exact val_N h.1 x 1 h1.1
theorem sort_N {g : List (ByteArray × ClassV)} {x : IT} (h : OkN g x) : OkN g (sortT g x) := by
  induction h with
  | @mk x hc hl hw hn hs _ ih =>
    refine .mk (by rw [sort_cls]; exact hc) (by rw [sort_says, sort_cls]; exact hl) (by rw [sort_cls]; exact hw) (by rw [sort_cls]; exact hn) (by rw [sort_says]; exact hs) ?_
    intro p hp
    rw [sort_parts, isort_mem] at hp
    rcases hp with hp | hp
    · cases hp
    · obtain ⟨q, hq, rfl⟩ := List.mem_map.1 hp
      exact ih q hq

/-! ### Bytes -/
abbrev by_ (s : ByteArray) : List UInt8 := s.data.toList
theorem w_no {s : ByteArray} (h : isW s = true) (b : UInt8) (hb : okBs b = false) : b ∉ by_ s := by
  simp only [isW, Bool.and_eq_true, List.all_eq_true] at h
  intro hm
  have := h.2 b hm
  rw [hb] at this; cases this
theorem cut_first (c : UInt8) : ∀ (a b a' b' : List UInt8), c ∉ a → c ∉ a' → a ++ c :: b = a' ++ c :: b' → a = a' ∧ b = b'
  | [], b, [], b', _, _, h => by simpa using h
  | [], b, y :: a', b', _, h', h => by
    simp only [List.nil_append, List.cons_append, List.cons.injEq] at h
    exact absurd (by rw [← h.1]; exact List.mem_cons_self ..) h'
  | x :: a, b, [], b', h', _, h => by
    simp only [List.nil_append, List.cons_append, List.cons.injEq] at h
    exact absurd (by rw [h.1]; exact List.mem_cons_self ..) h'
  | x :: a, b, y :: a', b', h1, h2, h => by
    simp only [List.cons_append, List.cons.injEq] at h
    have := cut_first c a b a' b' (fun e => h1 (List.mem_cons_of_mem _ e)) (fun e => h2 (List.mem_cons_of_mem _ e)) h.2
    exact ⟨by rw [h.1, this.1], this.2⟩
theorem eqTok {n s n' s' : ByteArray} (h1 : (61 : UInt8) ∉ by_ n) (h2 : (61 : UInt8) ∉ by_ n') (h : n ++ tEq ++ s = n' ++ tEq ++ s') : n = n' ∧ s = s' := by
  have h3 := congrArg by_ h
  simp only [by_, ba_app] at h3
  have h4 : n.data.toList ++ (61 : UInt8) :: s.data.toList = n'.data.toList ++ (61 : UInt8) :: s'.data.toList := by simpa using h3
  have := cut_first 61 _ _ _ _ h1 h2 h4
  exact ⟨ba_ext this.1, ba_ext this.2⟩
/-- a token that says nothing of a trait -/
abbrev noE (t : ByteArray) : Prop := (61 : UInt8) ∉ by_ t
theorem noE_tok {n s : ByteArray} (h : noE (n ++ tEq ++ s)) : False := h (by simp only [by_, ba_app]; simp)
theorem w_noE {s : ByteArray} (h : isW s = true) : noE s := w_no h 61 (by decide)
def stopE : List ByteArray → Prop
  | [] => True
  | t :: _ => noE t
theorem said_inj : ∀ (ts : List TraitV) (ss ss' : List ByteArray) (R R' : List ByteArray), ss.length = ts.length → ss'.length = ts.length → (∀ t ∈ ts, isW t.name = true) → (ts.map (·.name)).Nodup → stopE R → stopE R' →
    saidTok ts ss ++ R = saidTok ts ss' ++ R' → ss = ss' ∧ R = R'
  | [], [], [], R, R', _, _, _, _, _, _, h => ⟨rfl, h⟩
  | [], _ :: _, _, _, _, h, _, _, _, _, _, _ => by simp at h
  | [], _, _ :: _, _, _, _, h, _, _, _, _, _ => by simp at h
  | _ :: _, [], _, _, _, h, _, _, _, _, _, _ => by simp at h
  | _ :: _, _ :: _, [], _, _, _, h, _, _, _, _, _ => by simp at h
  | t :: ts, s :: ss, s' :: ss', R, R', h1, h2, hw, hn, hR, hR', h => by
    rw [List.map_cons, List.nodup_cons] at hn
    have htw := w_noE (hw t (List.mem_cons_self ..))
    have ih := said_inj ts ss ss' R R' (by simpa using h1) (by simpa using h2) (fun u hu => hw u (List.mem_cons_of_mem _ hu)) hn.2 hR hR'
    -- one that begins with this trait's token cannot be one of the others
    have no : ∀ (us qs : List ByteArray) (s0 : ByteArray) (U : List ByteArray), us.length = ts.length → stopE U → saidTok ts us ++ U ≠ (t.name ++ tEq ++ s0) :: qs := by
      intro us qs s0 U _ hU e
      cases hx : saidTok ts us with
      | nil =>
        rw [hx, List.nil_append] at e
        rw [e] at hU
        exact noE_tok hU
      | cons y r =>
        have hy : y ∈ saidTok ts us := by rw [hx]; exact List.mem_cons_self ..
        rw [hx, List.cons_append, List.cons.injEq] at e
        have mem : ∀ (tt : List TraitV) (vv : List ByteArray) (z : ByteArray), z ∈ saidTok tt vv → ∃ u ∈ tt, ∃ v, z = u.name ++ tEq ++ v := by
          intro tt
          induction tt with
          | nil => intro vv z hz; simp [saidTok] at hz
          | cons u tt iht =>
            intro vv z hz
            cases vv with
            | nil => simp [saidTok] at hz
            | cons v vv =>
              rw [saidTok] at hz
              split at hz
              · obtain ⟨u', h1, h2⟩ := iht vv z hz
                exact ⟨u', List.mem_cons_of_mem _ h1, h2⟩
              · rcases List.mem_cons.1 hz with rfl | hz
                · exact ⟨u, List.mem_cons_self .., v, rfl⟩
                · obtain ⟨u', h1, h2⟩ := iht vv z hz
                  exact ⟨u', List.mem_cons_of_mem _ h1, h2⟩
        obtain ⟨u, hu, v, hv⟩ := mem ts us y hy
        rw [hv] at e
        have := eqTok (w_noE (hw u (List.mem_cons_of_mem _ hu))) htw e.1
        exact hn.1 (List.mem_map.2 ⟨u, hu, this.1⟩)
    rw [saidTok, saidTok] at h
    by_cases e : (s == (⟨#[]⟩ : ByteArray)) = true
    · by_cases e' : (s' == (⟨#[]⟩ : ByteArray)) = true
      · rw [if_pos e, if_pos e'] at h
        have := ih h
        exact ⟨by rw [bytes_eq e, bytes_eq e', this.1], this.2⟩
      · rw [if_pos e, if_neg e', List.cons_append] at h
        exact absurd h (no ss _ s' R (by simpa using h1) hR)
    · by_cases e' : (s' == (⟨#[]⟩ : ByteArray)) = true
      · rw [if_neg e, if_pos e', List.cons_append] at h
        exact absurd h.symm (no ss' _ s R' (by simpa using h2) hR')
      · rw [if_neg e, if_neg e', List.cons_append, List.cons_append, List.cons.injEq] at h
        have h3 := eqTok htw htw h.1
        have := ih h.2
        exact ⟨by rw [h3.2, this.1], this.2⟩
/-- what may follow a description -/
def stopT : List ByteArray → Prop
  | [] => True
  | t :: _ => t = tClose ∨ t = tSemi
theorem stopT_E {R : List ByteArray} (h : stopT R) : stopE R := by
  cases R with
  | nil => trivial
  | cons t R => rcases h with h | h <;> (rw [h]; show (61 : UInt8) ∉ _; decide)
abbrev endT (l : List IT) : List ByteArray := if l.length = 0 then [] else [tClose]
mutual
theorem tok_inj {g : List (ByteArray × ClassV)} : ∀ (x y : IT) (R R' : List ByteArray), OkN g x → OkN g y → stopT R → stopT R' → tokT g x ++ R = tokT g y ++ R' → x = y ∧ R = R'
  | .mk cls says parts, y, R, R', hx, hy, hR, hR', h => by
    rw [tokT, tokT_eq g y] at h
    simp only [List.cons_append, List.append_assoc, List.cons.injEq] at h
    obtain ⟨hc, h⟩ := h
    have hl := hx.len
    have hl' := hy.len
    simp only [IT.cls, IT.says] at hl
    rw [← hc] at hl' h
    have stp : ∀ (l : List IT) (U : List ByteArray), stopT U → stopE (tokP g true l ++ (endT l ++ U)) := by
      intro l U hU
      cases l with
      | nil => exact stopT_E hU
      | cons p l => rw [tokP]; show (61 : UInt8) ∉ _; decide
    have h1 := said_inj (traitsOf g cls) says y.says _ _ hl hl' hx.tw hx.tn (stp parts R hR) (stp y.parts R' hR') h
    have h2 : parts = y.parts ∧ R = R' := by
      have h3 := h1.2
      cases parts with
      | nil =>
        cases hyp : y.parts with
        | nil => rw [hyp] at h3; exact ⟨rfl, by simpa [tokP] using h3⟩
        | cons q l' =>
          rw [hyp, tokP, tokP] at h3
          have h3 : R = tOpen :: (tokT g q ++ tokP g false l') ++ (endT (q :: l') ++ R') := h3
          rw [h3] at hR
          rcases hR with hR | hR <;> exact absurd hR (by decide)
      | cons p l =>
        cases hyp : y.parts with
        | nil =>
          rw [hyp, tokP, tokP] at h3
          have h3 : tOpen :: (tokT g p ++ tokP g false l) ++ (endT (p :: l) ++ R) = R' := h3
          rw [← h3] at hR'
          rcases hR' with hR' | hR' <;> exact absurd hR' (by decide)
        | cons q l' =>
          have hyq : ∀ z ∈ q :: l', OkN g z := by rw [← hyp]; exact hy.pt
          rw [hyp] at h3
          have h4 : tokP g true (p :: l) ++ tClose :: R = tokP g true (q :: l') ++ tClose :: R' := by
            exact h3
          exact tokP_inj true (p :: l) (q :: l') R R' hx.pt hyq (by simp) h4
    obtain ⟨yc, ys, yp⟩ := y
    simp only [IT.cls, IT.says, IT.parts] at hc h1 h2
    rw [hc, h1.1, h2.1]; exact ⟨rfl, h2.2⟩
theorem tokP_inj {g : List (ByteArray × ClassV)} (b : Bool) : ∀ (l l' : List IT) (R R' : List ByteArray), (∀ p ∈ l, OkN g p) → (∀ p ∈ l', OkN g p) → (b = true → l ≠ [] ∧ l' ≠ []) → tokP g b l ++ tClose :: R = tokP g b l' ++ tClose :: R' → l = l' ∧ R = R'
  | [], [], R, R', _, _, _, h => by simpa [tokP] using h
  | [], q :: l', R, R', _, _, hb, h => by
    cases b with
    | true => exact absurd rfl (hb rfl).1
    | false =>
      rw [tokP, tokP] at h
      simp only [List.nil_append, List.cons_append, List.cons.injEq] at h
      exact absurd h.1 (by decide)
  | p :: l, [], R, R', _, _, hb, h => by
    cases b with
    | true => exact absurd rfl (hb rfl).2
    | false =>
      rw [tokP, tokP] at h
      simp only [List.nil_append, List.cons_append, List.cons.injEq] at h
      exact absurd h.1 (by decide)
  | p :: l, q :: l', R, R', hl, hl', _, h => by
    rw [tokP, tokP] at h
    simp only [List.cons_append, List.append_assoc, List.cons.injEq] at h
    have stp : ∀ (l : List IT) (U : List ByteArray), stopT (tokP g false l ++ tClose :: U) := by
      intro l U
      cases l with
      | nil => exact .inl rfl
      | cons p l => rw [tokP]; exact .inr rfl
    have h1 := tok_inj p q _ _ (hl p (List.mem_cons_self ..)) (hl' q (List.mem_cons_self ..)) (stp l R) (stp l' R') h.2
    have h2 := tokP_inj false l l' R R' (fun z hz => hl z (List.mem_cons_of_mem _ hz)) (fun z hz => hl' z (List.mem_cons_of_mem _ hz)) (by simp) h1.2
    exact ⟨by rw [h1.1, h2.1], h2.2⟩
end

/-! ### The text and its tokens -/
/-- a token without a blank -/
abbrev noB (t : ByteArray) : Prop := (32 : UInt8) ∉ by_ t
theorem w_noB {s : ByteArray} (h : isW s = true) : noB s := w_no h 32 (by decide)
theorem said_noB : ∀ (ts : List TraitV) (ss : List ByteArray), (∀ t ∈ ts, isW t.name = true) → (∀ s ∈ ss, s = ⟨#[]⟩ ∨ isW s = true) → ∀ u ∈ saidTok ts ss, noB u
  | [], _, _, _ => by simp [saidTok]
  | _ :: _, [], _, _ => by simp [saidTok]
  | t :: ts, s :: ss, hw, hs => by
    intro u hu
    have ih := said_noB ts ss (fun t ht => hw t (List.mem_cons_of_mem _ ht)) (fun s h => hs s (List.mem_cons_of_mem _ h)) u
    rw [saidTok] at hu
    split at hu
    · exact ih hu
    · rcases List.mem_cons.1 hu with rfl | hu
      · have h1 := w_noB (hw t (List.mem_cons_self ..))
        have h2 : noB s := by
          rcases hs s (List.mem_cons_self ..) with h | h
          · rw [h]; show (32 : UInt8) ∉ _; decide
          · exact w_noB h
        show (32 : UInt8) ∉ by_ _
        simp only [by_, ba_app, List.mem_append, not_or]
        exact ⟨⟨h1, by decide⟩, h2⟩
      · exact ih hu
mutual
theorem tok_noB {g : List (ByteArray × ClassV)} : ∀ x : IT, OkN g x → ∀ u ∈ tokT g x, noB u
  | .mk cls says parts, h => by
    intro u hu
    rw [tokT, List.mem_append, List.mem_append, List.mem_cons] at hu
    rcases hu with (rfl | hu) | hu | hu
    · exact w_noB h.cls
    · exact said_noB _ _ h.tw h.sw u hu
    · exact tokP_noB true parts h.pt u hu
    · split at hu
      · simp at hu
      · rw [List.mem_singleton.1 hu]; show (32 : UInt8) ∉ _; decide
theorem tokP_noB {g : List (ByteArray × ClassV)} (b : Bool) : ∀ l : List IT, (∀ p ∈ l, OkN g p) → ∀ u ∈ tokP g b l, noB u
  | [], _ => by simp [tokP]
  | p :: l, h => by
    intro u hu
    rw [tokP] at hu
    rcases List.mem_cons.1 hu with hu | hu
    · rw [hu]; split <;> (show (32 : UInt8) ∉ _; decide)
    · rcases List.mem_append.1 hu with hu | hu
      · exact tok_noB p (h p (List.mem_cons_self ..)) u hu
      · exact tokP_noB false l (fun q hq => h q (List.mem_cons_of_mem _ hq)) u hu
end
theorem jn_inj : ∀ (xs ys : List ByteArray) (s t : ByteArray), (∀ u ∈ s :: xs, noB u) → (∀ u ∈ t :: ys, noB u) → by_ s ++ by_ (bl xs) = by_ t ++ by_ (bl ys) → s :: xs = t :: ys
  | [], [], s, t, _, _, h => by
    have h2 : by_ s = by_ t := by simpa [bl] using h
    rw [ba_ext h2]
  | [], u :: ys, s, t, hs, _, h => by
    exfalso
    have : (32 : UInt8) ∈ by_ s ++ by_ (bl []) := by rw [h, bl]; simp [by_]
    rw [bl] at this
    exact hs s (List.mem_cons_self ..) (by simpa [by_] using this)
  | u :: xs, [], s, t, _, ht, h => by
    exfalso
    have : (32 : UInt8) ∈ by_ t ++ by_ (bl []) := by rw [← h, bl]; simp [by_]
    rw [bl] at this
    exact ht t (List.mem_cons_self ..) (by simpa [by_] using this)
  | u :: xs, v :: ys, s, t, hs, ht, h => by
    rw [bl, bl] at h
    have e : ∀ (a : ByteArray) (l : List ByteArray), by_ (tBl ++ (a ++ bl l)) = (32 : UInt8) :: (by_ a ++ by_ (bl l)) := by
      intro a l; simp [by_]
    rw [e, e] at h
    have h1 := cut_first 32 _ _ _ _ (hs s (List.mem_cons_self ..)) (ht t (List.mem_cons_self ..)) h
    have h2 := jn_inj xs ys u v (fun w hw => hs w (List.mem_cons_of_mem _ hw)) (fun w hw => ht w (List.mem_cons_of_mem _ hw)) h1.2
    rw [ba_ext h1.1, h2]
theorem txt_inj {g : List (ByteArray × ClassV)} {x y : IT} (hx : OkN g x) (hy : OkN g y) (h : txtT g x = txtT g y) : x = y := by
  have key : ∀ z : IT, ∃ s l, tokT g z = s :: l := fun z => by
    cases h : tokT g z with
    | nil => exact absurd h (tok_ne g z)
    | cons s l => exact ⟨s, l, rfl⟩
  obtain ⟨s, l, e1⟩ := key x
  obtain ⟨t, m, e2⟩ := key y
  have h1 := tok_noB x hx
  have h2 := tok_noB y hy
  unfold txtT at h
  rw [e1] at h1 h
  rw [e2] at h2 h
  rw [jn_bl, jn_bl] at h
  have h3 := congrArg by_ h
  simp only [by_, ba_app] at h3
  have h4 := jn_inj l m s t h1 h2 h3
  have h5 : tokT g x ++ [] = tokT g y ++ [] := by rw [e1, e2, h4]
  exact (tok_inj x y [] [] hx hy trivial trivial h5).1
/-- lists of the same descriptions are sorted alike -/
theorem insAt_perm {α : Type} (lt : α → α → Bool) (P : List α) (x : α) : ∀ j, (insAt lt P x j).Perm (x :: P)
  | 0 => .refl _
  | j + 1 => by
    have h : (P.take (j + 1) ++ x :: P.drop (j + 1)).Perm (x :: P) := by
      refine List.perm_middle.trans (.cons x ?_)
      rw [List.take_append_drop]
    rw [insAt]
    split
    · split
      · exact insAt_perm lt P x j
      · exact h
    · exact h
theorem isort_perm {α : Type} (lt : α → α → Bool) : ∀ l P : List α, (isort lt P l).Perm (P ++ l)
  | [], P => by rw [isort, List.append_nil]
  | x :: l, P => by
    rw [isort]
    refine (isort_perm lt l _).trans ?_
    refine ((insAt_perm lt P x _).append_right l).trans ?_
    rw [List.cons_append]
    exact List.perm_middle.symm
theorem isort_same {g : List (ByteArray × ClassV)} {a b : List IT} (ha : ∀ x ∈ a, OkN g x) (hb : ∀ x ∈ b, OkN g x) (h : a.Perm b) : isort (ltT g) [] a = isort (ltT g) [] b := by
  have h1 := (isort_L (ltT_weak g) a [] List.Pairwise.nil).2
  have h2 := (isort_L (ltT_weak g) b [] List.Pairwise.nil).2
  have p1 := isort_perm (ltT g) a []
  have p2 := isort_perm (ltT g) b []
  rw [List.nil_append] at p1 p2
  refine List.Perm.eq_of_pairwise ?_ h1 h2 (p1.trans (h.trans p2.symm))
  intro x y hx hy hxy hyx
  have n1 := ha x (p1.subset hx)
  have n2 := hb y (p2.subset hy)
  refine txt_inj n1 n2 ?_
  unfold ltT at hxy hyx
  rw [ltS_eq] at hxy hyx
  have e1 := of_decide_eq_false hxy
  have e2 := of_decide_eq_false hyx
  exact ba_ext (List.le_antisymm (List.not_lt.1 e1) (List.not_lt.1 e2))
end Go.Proofs.YtlfbghkcfmcnlaaGreatDoor
namespace Go.Proofs.YtlfbghkcfmcnlaaGreatDoor
open Go.Sx Go.RowKit

mutual
def CovP : IT → IT → Prop
  | .mk cls says parts, b => cls = b.cls ∧ saysCov says b.says = true ∧ CovPL parts b.parts
def CovPL : List IT → List IT → Prop
  | [], _ => True
  | p :: l, bs => ∃ q b1 b2, bs = b1 ++ q :: b2 ∧ CovP p q ∧ CovPL l (b1 ++ b2)
end
theorem CovP_iff (a b : IT) : CovP a b ↔ a.cls = b.cls ∧ saysCov a.says b.says = true ∧ CovPL a.parts b.parts := by
  obtain ⟨_, _, _⟩ := a; rw [CovP]; rfl

/-! ### From the search -/
def restU {α : Type} : List α → Nat → List Int → List α
  | [], _, _ => []
  | b :: bs, k, used => if hasI used (k : Int) then restU bs (k + 1) used else b :: restU bs (k + 1) used
theorem hasI_snoc (used : List Int) (j i : Int) : hasI (used ++ [j]) i = (hasI used i || decide (j = i)) := by
  unfold hasI; rw [List.any_append, List.any_cons, List.any_nil, Bool.or_false]
theorem restU_far {α : Type} (used : List Int) (j : Nat) : ∀ (bs : List α) (k : Nat), j < k → restU bs k (used ++ [(j : Int)]) = restU bs k used
  | [], _, _ => rfl
  | b :: bs, k, h => by
    rw [restU, restU, hasI_snoc, decide_eq_false (by omega), Bool.or_false, restU_far used j bs (k + 1) (by omega)]
theorem restU_split {α : Type} (used : List Int) : ∀ (bs : List α) (k : Nat) (b1 : List α) (q : α) (b2 : List α), restU bs k used = b1 ++ q :: b2 →
    ∃ j, bs[j]? = some q ∧ hasI used ((k + j : Nat) : Int) = false ∧ restU bs k (used ++ [((k + j : Nat) : Int)]) = b1 ++ b2
  | [], _, b1, q, b2, h => by simp [restU] at h
  | b :: bs, k, b1, q, b2, h => by
    rw [restU] at h
    split at h
    · rename_i hk
      obtain ⟨j, h1, h2, h3⟩ := restU_split used bs (k + 1) b1 q b2 h
      refine ⟨j + 1, by simpa using h1, by rw [show k + (j + 1) = k + 1 + j by omega]; exact h2, ?_⟩
      rw [restU, hasI_snoc, hk, Bool.true_or, if_pos rfl, show k + (j + 1) = k + 1 + j by omega]; exact h3
    · rename_i hk
      have hk' : hasI used (k : Int) = false := by simpa using hk
      cases b1 with
      | nil =>
        rw [List.nil_append, List.cons.injEq] at h
        refine ⟨0, by rw [List.getElem?_cons_zero, h.1], hk', ?_⟩
        rw [Nat.add_zero, restU, hasI_snoc, decide_eq_true (by omega), Bool.or_true, if_pos rfl, restU_far used k bs (k + 1) (by omega), h.2]; rfl
      | cons c b1 =>
        rw [List.cons_append, List.cons.injEq] at h
        obtain ⟨j, h1, h2, h3⟩ := restU_split used bs (k + 1) b1 q b2 h.2
        refine ⟨j + 1, by simpa using h1, by rw [show k + (j + 1) = k + 1 + j by omega]; exact h2, ?_⟩
        rw [restU, hasI_snoc, hk', Bool.false_or, if_neg (by simp; omega), show k + (j + 1) = k + 1 + j by omega, h3, h.1]; rfl
theorem restU_pick {α : Type} (used : List Int) : ∀ (bs : List α) (k j : Nat) (q : α), bs[j]? = some q → hasI used ((k + j : Nat) : Int) = false →
    ∃ b1 b2, restU bs k used = b1 ++ q :: b2 ∧ restU bs k (used ++ [((k + j : Nat) : Int)]) = b1 ++ b2
  | [], _, _, _, h, _ => by simp at h
  | b :: bs, k, 0, q, h, hu => by
    simp only [List.getElem?_cons_zero, Option.some.injEq] at h
    rw [Nat.add_zero] at hu ⊢
    refine ⟨[], restU bs (k + 1) used, by rw [restU, if_neg (by simp [hu]), h]; rfl, ?_⟩
    rw [restU, hasI_snoc, decide_eq_true rfl, Bool.or_true, if_pos rfl, restU_far used k bs (k + 1) (by omega)]; rfl
  | b :: bs, k, j + 1, q, h, hu => by
    rw [show k + (j + 1) = k + 1 + j by omega] at hu ⊢
    obtain ⟨b1, b2, h1, h2⟩ := restU_pick used bs (k + 1) j q (by simpa using h) hu
    rw [restU, restU, hasI_snoc, decide_eq_false (show ¬ ((k + 1 + j : Nat) : Int) = (k : Int) by omega), Bool.or_false, h1, h2]
    split
    · exact ⟨b1, b2, rfl, rfl⟩
    · exact ⟨b :: b1, b2, rfl, rfl⟩
theorem tryR_iff (f : Nat → Bool) (used : List Int) : ∀ (row : List Bool) (k : Nat), tryR f row k used = true ↔ ∃ j, row[j]? = some true ∧ hasI used ((k + j : Nat) : Int) = false ∧ f (k + j) = true
  | [], k => by simp [tryR]
  | c :: row, k => by
    rw [tryR, Bool.or_eq_true, tryR_iff f used row (k + 1), seek_neg used k 0 (by omega)]
    simp only [Bool.and_eq_true, Bool.not_eq_true']
    constructor
    · rintro (⟨⟨h1, h2⟩, h3⟩ | ⟨j, h1, h2, h3⟩)
      · exact ⟨0, by simp [h2], by simpa using h1, by simpa using h3⟩
      · exact ⟨j + 1, by simpa using h1, by rw [show k + (j + 1) = k + 1 + j by omega]; exact h2, by rw [show k + (j + 1) = k + 1 + j by omega]; exact h3⟩
    · rintro ⟨j, h1, h2, h3⟩
      cases j with
      | zero => exact .inl ⟨⟨by simpa using h2, by simpa using h1⟩, by simpa using h3⟩
      | succ j =>
        rw [show k + (j + 1) = k + 1 + j by omega] at h2 h3
        exact .inr ⟨j, by simpa using h1, h2, h3⟩
mutual
theorem covI_iff : ∀ a b : ItemV, covI a b = true ↔ CovP a.pl b.pl
  | .mk cls As cs says Ap cp parts, b => by
    rw [covI_ref]
    simp only [Bool.and_eq_true, decide_eq_true_eq]
    show cls = b.cls ∧ saysCov says b.says = true ∧ asR (covRows parts b.parts) [] = true ↔ _
    rw [rows_iff parts b.parts [], ItemV.pl, CovP, pl_cls, pl_says, pl_parts, ← plL_map]
    have : restU b.parts 0 [] = b.parts := by
      have : ∀ (l : List ItemV) (k : Nat), restU l k [] = l := by
        intro l
        induction l with
        | nil => intro _; rfl
        | cons x l ih => intro k; rw [restU, ih]; rfl
      exact this _ _
    rw [this]
theorem rows_iff : ∀ (l bs : List ItemV) (used : List Int), asR (covRows l bs) used = true ↔ CovPL (plL l) (plL (restU bs 0 used))
  | [], bs, used => by rw [covRows, asR, plL, CovPL]; simp
  | p :: l, bs, used => by
    rw [covRows, asR, tryR_iff, plL, CovPL]
    constructor
    · rintro ⟨j, h1, h2, h3⟩
      rw [List.getElem?_map] at h1
      obtain ⟨q, hq, hc⟩ := Option.map_eq_some_iff.1 h1
      obtain ⟨b1, b2, e1, e2⟩ := restU_pick used bs 0 j q hq h2
      rw [rows_iff l bs, e2] at h3
      refine ⟨q.pl, plL b1, plL b2, by rw [e1, plL_map, plL_map, plL_map, List.map_append, List.map_cons], (covI_iff p q).1 hc, ?_⟩
      rw [plL_map, plL_map b1, plL_map b2, ← List.map_append, ← plL_map, ← plL_map]; exact h3
    · rintro ⟨q, b1, b2, h1, h2, h3⟩
      rw [plL_map] at h1
      obtain ⟨c1, c2, e1, e2, e3⟩ := List.map_eq_append_iff.1 h1
      obtain ⟨r, c3, f1, f2, f3⟩ := List.map_eq_cons_iff.1 e3
      subst f1
      obtain ⟨j, g1, g2, g3⟩ := restU_split used bs 0 c1 r c3 e1
      refine ⟨j, by rw [List.getElem?_map, g1, Option.map_some, (covI_iff p r).2 (by rw [f2]; exact h2)], g2, ?_⟩
      rw [rows_iff l bs, g3, plL_map (c1 ++ c3), List.map_append, e2, f3]; exact h3
end

/-! ### What is said grows -/
theorem saysCov_said : ∀ ss ts : List ByteArray, ss.length = ts.length → saysCov ss ts = true → saidN ss ≤ saidN ts ∧ (saidN ss = saidN ts → ss = ts)
  | [], [], _, _ => ⟨Int.le_refl _, fun _ => rfl⟩
  | [], _ :: _, h, _ => by simp at h
  | _ :: _, [], h, _ => by simp at h
  | s :: ss, t :: ts, h, hc => by
    rw [saysCov, Bool.and_eq_true] at hc
    have ih := saysCov_said ss ts (by simpa using h) hc.2
    have e : ∀ (u : ByteArray) (us : List ByteArray), saidN (u :: us) = (if u == (⟨#[]⟩ : ByteArray) then 0 else 1) + saidN us := fun u us => by unfold saidN; rw [List.map_cons, List.sum_cons]
    rw [e, e]
    have h1 := hc.1
    simp only [Bool.not_eq_true', Bool.and_eq_false_iff, Bool.not_eq_false'] at h1
    by_cases hs : (s == (⟨#[]⟩ : ByteArray)) = true
    · rw [if_pos hs]
      by_cases ht : (t == (⟨#[]⟩ : ByteArray)) = true
      · rw [if_pos ht]
        refine ⟨by omega, fun h => ?_⟩
        rw [bytes_eq hs, bytes_eq ht, ih.2 (by omega)]
      · rw [if_neg ht]
        exact ⟨by omega, fun h => by omega⟩
    · rw [if_neg hs]
      have hst : s = t := by
        rcases h1 with h1 | h1
        · exact absurd h1 hs
        · exact bytes_eq h1
      subst hst
      rw [if_neg hs]
      exact ⟨by omega, fun h => by rw [ih.2 (by omega)]⟩
theorem saysCov_refl : ∀ ss : List ByteArray, saysCov ss ss = true
  | [] => rfl
  | s :: ss => by
    rw [saysCov, saysCov_refl ss, show (s == s) = true by rw [bytes_beq]; simp]; simp
theorem saysCov_trans : ∀ ss ts us : List ByteArray, ss.length = ts.length → ts.length = us.length → saysCov ss ts = true → saysCov ts us = true → saysCov ss us = true
  | [], _, _, _, _, _, _ => rfl
  | _ :: _, [], _, h, _, _, _ => by simp at h
  | _ :: _, _ :: _, [], _, h, _, _ => by simp at h
  | s :: ss, t :: ts, u :: us, h, h', h1, h2 => by
    rw [saysCov, Bool.and_eq_true] at h1 h2 ⊢
    refine ⟨?_, saysCov_trans ss ts us (by simpa using h) (by simpa using h') h1.2 h2.2⟩
    have a := h1.1
    have b := h2.1
    simp only [Bool.not_eq_true', Bool.and_eq_false_iff, Bool.not_eq_false'] at a b ⊢
    rcases a with a | a
    · exact .inl a
    · rw [bytes_eq a]; exact b
theorem cntL_perm {a b : List IT} (h : a.Perm b) : cntL a = cntL b := by
  induction h with
  | nil => rfl
  | cons x _ ih => rw [cntL, cntL, ih]
  | swap x y l => rw [cntL, cntL, cntL, cntL]; omega
  | trans _ _ h1 h2 => rw [h1, h2]
theorem sdL_app : ∀ a b : List IT, sdL (a ++ b) = sdL a + sdL b
  | [], b => by rw [List.nil_append, sdL]; omega
  | x :: a, b => by rw [List.cons_append, sdL, sdL, sdL_app a b]; omega
theorem OkN.lens {g : List (ByteArray × ClassV)} {a b : IT} (ha : OkN g a) (hb : OkN g b) (h : a.cls = b.cls) : a.says.length = b.says.length := by rw [ha.len, hb.len, h]
theorem saidN_nn (l : List ByteArray) : 0 ≤ saidN l := by
  unfold saidN
  induction l with
  | nil => simp
  | cons s l ih => rw [List.map_cons, List.sum_cons]; split <;> omega
mutual
theorem sd_nn : ∀ x : IT, 0 ≤ sdT x
  | .mk _ says parts => by rw [sdT]; have := saidN_nn says; have := sdL_nn parts; omega
theorem sdL_nn : ∀ l : List IT, 0 ≤ sdL l
  | [] => by rw [sdL]; omega
  | p :: l => by rw [sdL]; have := sd_nn p; have := sdL_nn l; omega
end
mutual
theorem cov_grow {g : List (ByteArray × ClassV)} : ∀ a b : IT, OkN g a → OkN g b → CovP a b → (cntT a ≤ cntT b ∧ sdT a ≤ sdT b) ∧ (cntT a = cntT b → sdT a = sdT b → sortT g a = sortT g b)
  | .mk cls says parts, b, ha, hb, h => by
    rw [CovP] at h
    obtain ⟨h1, h2, h3⟩ := h
    have hs := saysCov_said says b.says (ha.lens hb h1) h2
    have hp := covL_grow parts b.parts ha.pt hb.pt h3
    rw [cntT, sdT, cntT_eq b, sdT_eq b]
    refine ⟨by omega, fun h4 h5 => ?_⟩
    have e1 : saidN says = saidN b.says := by omega
    have e2 := hp.2 (by omega) (by omega)
    have e3 := isort_same (g := g) (fun z hz => by obtain ⟨q, hq, rfl⟩ := List.mem_map.1 hz; exact sort_N (ha.pt q hq)) (fun z hz => by obtain ⟨q, hq, rfl⟩ := List.mem_map.1 hz; exact sort_N (hb.pt q hq)) e2
    rw [sortT_eq, sortT_eq g b]
    show IT.mk cls says (isort (ltT g) [] (parts.map (sortT g))) = _
    rw [h1, hs.2 e1, e3]
theorem covL_grow {g : List (ByteArray × ClassV)} : ∀ l bs : List IT, (∀ p ∈ l, OkN g p) → (∀ p ∈ bs, OkN g p) → CovPL l bs → (cntL l ≤ cntL bs ∧ sdL l ≤ sdL bs) ∧ (cntL l = cntL bs → sdL l = sdL bs → (l.map (sortT g)).Perm (bs.map (sortT g)))
  | [], bs, _, _, _ => by
    have h1 := cntL_pos bs
    have h2 : 0 ≤ sdL bs := sdL_nn bs
    refine ⟨⟨by rw [cntL]; omega, by rw [sdL]; exact h2⟩, fun h3 _ => ?_⟩
    rw [cntL] at h3
    cases bs with
    | nil => exact .refl _
    | cons p bs => rw [cntL] at h3; have := cnt_pos p; have := cntL_pos bs; omega
  | p :: l, bs, hl, hb, h => by
    rw [CovPL] at h
    obtain ⟨q, b1, b2, e, h1, h2⟩ := h
    subst e
    have i1 := cov_grow p q (hl p (List.mem_cons_self ..)) (hb q (by simp)) h1
    have i2 := covL_grow l (b1 ++ b2) (fun z hz => hl z (List.mem_cons_of_mem _ hz)) (fun z hz => hb z (by
      rcases List.mem_append.1 hz with hz | hz
      · exact List.mem_append_left _ hz
      · exact List.mem_append_right _ (List.mem_cons_of_mem _ hz))) h2
    have c1 : cntL (b1 ++ q :: b2) = cntT q + cntL (b1 ++ b2) := by rw [cntL_append, cntL_append, cntL]; omega
    have c2 : sdL (b1 ++ q :: b2) = sdT q + sdL (b1 ++ b2) := by rw [sdL_app, sdL_app, sdL]; omega
    rw [cntL, sdL, c1, c2]
    refine ⟨by omega, fun h3 h4 => ?_⟩
    have e1 := i1.2 (by omega) (by omega)
    have e2 := i2.2 (by omega) (by omega)
    rw [List.map_cons, List.map_append, List.map_cons, e1]
    refine (List.Perm.cons _ e2).trans ?_
    rw [List.map_append]
    exact List.perm_middle.symm
end

/-! ### The order of descriptions -/
mutual
theorem cov_refl : ∀ a : IT, CovP a a
  | .mk cls says parts => by
    rw [CovP]; exact ⟨rfl, saysCov_refl says, covL_refl parts⟩
theorem covL_refl : ∀ l : List IT, CovPL l l
  | [] => by rw [CovPL]; trivial
  | p :: l => by rw [CovPL]; exact ⟨p, [], l, rfl, cov_refl p, covL_refl l⟩
end
theorem covL_perm : ∀ (l bs bs' : List IT), CovPL l bs → bs.Perm bs' → CovPL l bs'
  | [], _, _, _, _ => by rw [CovPL]; trivial
  | p :: l, bs, bs', h, hp => by
    rw [CovPL] at h ⊢
    obtain ⟨q, b1, b2, e, h1, h2⟩ := h
    subst e
    obtain ⟨c1, c2, e⟩ := List.append_of_mem (hp.subset (show q ∈ b1 ++ q :: b2 by simp))
    refine ⟨q, c1, c2, e, h1, covL_perm l _ _ h2 ?_⟩
    subst e
    exact (List.perm_cons q).1 (List.perm_middle.symm.trans (hp.trans List.perm_middle))
theorem covL_cons {p q : IT} {l bs rest : List IT} (hp : bs.Perm (q :: rest)) (h1 : CovP p q) (h2 : CovPL l rest) : CovPL (p :: l) bs := by
  refine covL_perm _ _ _ ?_ hp.symm
  rw [CovPL]; exact ⟨q, [], rest, rfl, h1, h2⟩
theorem covL_pull : ∀ (m1 : List IT) (q : IT) (m2 n : List IT), CovPL (m1 ++ q :: m2) n → ∃ r rest, n.Perm (r :: rest) ∧ CovP q r ∧ CovPL (m1 ++ m2) rest
  | [], q, m2, n, h => by
    rw [List.nil_append, CovPL] at h
    obtain ⟨r, b1, b2, e, h1, h2⟩ := h
    exact ⟨r, b1 ++ b2, by rw [e]; exact List.perm_middle, h1, h2⟩
  | x :: m1, q, m2, n, h => by
    rw [List.cons_append, CovPL] at h
    obtain ⟨y, b1, b2, e, h1, h2⟩ := h
    obtain ⟨r, rest, p1, h3, h4⟩ := covL_pull m1 q m2 _ h2
    refine ⟨r, y :: rest, ?_, h3, covL_cons (.refl _) h1 h4⟩
    rw [e]
    exact List.perm_middle.trans ((List.Perm.cons y p1).trans (List.Perm.swap r y rest))
mutual
theorem cov_trans {g : List (ByteArray × ClassV)} : ∀ a b c : IT, OkN g a → OkN g b → OkN g c → CovP a b → CovP b c → CovP a c
  | .mk cls says parts, b, c, ha, hb, hc, h, h' => by
    rw [CovP] at h ⊢
    rw [CovP_iff] at h'
    exact ⟨h.1.trans h'.1, saysCov_trans _ _ _ (ha.lens hb h.1) (hb.lens hc h'.1) h.2.1 h'.2.1, covL_trans parts b.parts c.parts ha.pt hb.pt hc.pt h.2.2 h'.2.2⟩
theorem covL_trans {g : List (ByteArray × ClassV)} : ∀ l m n : List IT, (∀ p ∈ l, OkN g p) → (∀ p ∈ m, OkN g p) → (∀ p ∈ n, OkN g p) → CovPL l m → CovPL m n → CovPL l n
  | [], _, _, _, _, _, _, _ => by rw [CovPL]; trivial
  | p :: l, m, n, hl, hm, hn, h, h' => by
    rw [CovPL] at h
    obtain ⟨q, m1, m2, e, h1, h2⟩ := h
    subst e
    obtain ⟨r, rest, p1, h3, h4⟩ := covL_pull m1 q m2 n h'
    have hr : ∀ z ∈ r :: rest, OkN g z := fun z hz => hn z (p1.symm.subset hz)
    refine covL_cons p1 (cov_trans p q r (hl p (List.mem_cons_self ..)) (hm q (by simp)) (hr r (List.mem_cons_self ..)) h1 h3) ?_
    exact covL_trans l (m1 ++ m2) rest (fun z hz => hl z (List.mem_cons_of_mem _ hz)) (fun z hz => hm z (by
      rcases List.mem_append.1 hz with hz | hz
      · exact List.mem_append_left _ hz
      · exact List.mem_append_right _ (List.mem_cons_of_mem _ hz))) (fun z hz => hr z (List.mem_cons_of_mem _ hz)) h2 h4
end
mutual
theorem sort_cov (g : List (ByteArray × ClassV)) : ∀ a b : IT, sortT g a = sortT g b → CovP a b
  | .mk cls says parts, b, h => by
    rw [sortT_eq, sortT_eq g b, IT.mk.injEq] at h
    rw [CovP]
    refine ⟨h.1, by have h2 : says = b.says := h.2.1; rw [h2]; exact saysCov_refl _, ?_⟩
    have h3 : isort (ltT g) [] (parts.map (sortT g)) = isort (ltT g) [] (b.parts.map (sortT g)) := h.2.2
    have p1 := isort_perm (ltT g) (parts.map (sortT g)) []
    have p2 := isort_perm (ltT g) (b.parts.map (sortT g)) []
    rw [List.nil_append] at p1 p2
    exact sortL_cov g parts b.parts (p1.symm.trans (h3 ▸ p2))
theorem sortL_cov (g : List (ByteArray × ClassV)) : ∀ l bs : List IT, (l.map (sortT g)).Perm (bs.map (sortT g)) → CovPL l bs
  | [], _, _ => by rw [CovPL]; trivial
  | p :: l, bs, h => by
    obtain ⟨q, hq, he⟩ := List.mem_map.1 (h.subset (show sortT g p ∈ (p :: l).map (sortT g) by simp))
    obtain ⟨b1, b2, e⟩ := List.append_of_mem hq
    subst e
    rw [CovPL]
    refine ⟨q, b1, b2, rfl, sort_cov g p q he.symm, sortL_cov g l (b1 ++ b2) ?_⟩
    rw [List.map_cons, List.map_append, List.map_cons, he] at h
    rw [List.map_append]
    exact (List.perm_cons _).1 (h.trans List.perm_middle)
end
/-- two descriptions cover each other if and only if their sorted forms have the same text -/
theorem cov_both {g : List (ByteArray × ClassV)} {a b : ItemV} (ha : OkN g a.pl) (hb : OkN g b.pl) : (txtT g (sortT g a.pl) == txtT g (sortT g b.pl)) = (covI a b && covI b a) := by
  rw [Bool.eq_iff_iff, Bool.and_eq_true, covI_iff, covI_iff]
  constructor
  · intro h
    have e := txt_inj (sort_N ha) (sort_N hb) (bytes_eq h)
    exact ⟨sort_cov g _ _ e, sort_cov g _ _ e.symm⟩
  · rintro ⟨h1, h2⟩
    have g1 := cov_grow _ _ ha hb h1
    have g2 := cov_grow _ _ hb ha h2
    rw [g1.2 (by omega) (by omega), bytes_beq]; exact decide_eq_true rfl
end Go.Proofs.YtlfbghkcfmcnlaaGreatDoor
namespace Go.Sx
open Go.RowKit
section
variable {C : Cx} {Q : Exit → Act → World → Prop} {L : Regs} {O S : List Fact} {ops : Array Oper}
theorem oper_mono {o : Oper} {a : Act} {w : World} {next next' : Act → World → Prop} {Q Q' : Exit → Act → World → Prop} (hn : ∀ a w, next a w → next' a w) (hq : ∀ e a w, e ≠ .normal → Q e a w → Q' e a w) (h : o.wpIn (FR C.ro) 0 C.P a w next Q) : o.wpIn (FR C.ro) 0 C.P a w next' Q' := by
  unfold Oper.wpIn at *
  refine ⟨h.1, ?_⟩
  have h2 := h.2
  generalize (o.semAt (FR C.ro).round a.eval).run C.P w = r at h2
  cases r with
  | ok n w' =>
    cases n <;> simp only [Oper.uponIn] at h2 ⊢
    case value v => exact hn _ _ h2
    case skip => exact hn _ _ h2
    case defer d => exact hn _ _ h2
    case enter f args => exact ⟨h2.1, h2.2.mono fun e w'' he => by cases e <;> first | exact hn _ _ he | exact hq _ _ _ (by simp) he | (obtain ⟨x1, x2, hx⟩ := he; exact ⟨x1, x2, hq _ _ _ (by simp) hx⟩)⟩
    case row row args => exact ⟨h2.1, h2.2.mono fun v w'' he => hn _ _ he⟩
    case round l f tmps asn body => exact ⟨h2.1, h2.2.mono fun e w'' he => by cases e <;> first | exact hn _ _ he | exact hq _ _ _ (by simp) he | (obtain ⟨x1, x2, hx⟩ := he; exact ⟨x1, x2, hq _ _ _ (by simp) hx⟩)⟩
  | halt x w' => cases x <;> simp only [Oper.uponIn] at h2 ⊢ <;> first | exact hq _ _ _ (by simp) h2 | exact h2
theorem wpl_app (rest : List Oper) : ∀ (run : List Oper) (a : Act) (w : World), wpListIn (FR C.ro) 0 C.P ops (NQ (wpListIn (FR C.ro) 0 C.P ops Q rest)) run a w → wpListIn (FR C.ro) 0 C.P ops Q (run ++ rest) a w
  | [], _, _, h => h
  | o :: run, a, w, h => by
    show wpListIn _ _ _ _ _ (o :: (run ++ rest)) a w
    unfold wpListIn at h ⊢
    split
    · rename_i hw
      rw [if_pos hw] at h
      exact oper_mono (fun a' w' h' => wpl_app rest run a' w' h') (fun e a' w' hne h' => by cases e <;> first | exact (show False from h').elim | exact absurd rfl hne) h
    · rename_i hw
      rw [if_neg hw] at h
      exact ⟨h.1, wpl_app rest run _ _ h.2⟩
theorem wpListIn_mono' {Q Q' : Exit → Act → World → Prop} (hq : ∀ e a w, Q e a w → Q' e a w) : ∀ (run : List Oper) (a : Act) (w : World), wpListIn (FR C.ro) 0 C.P ops Q run a w → wpListIn (FR C.ro) 0 C.P ops Q' run a w
  | [], _, _, h => hq _ _ _ h
  | o :: run, a, w, h => by
    unfold wpListIn at h ⊢
    split
    · rename_i hw
      rw [if_pos hw] at h
      exact oper_mono (fun a' w' h' => wpListIn_mono' hq run a' w' h') (fun e a w _ h => hq e a w h) h
    · rename_i hw
      rw [if_neg hw] at h
      exact ⟨h.1, wpListIn_mono' hq run _ _ h.2⟩
/-- THE RULE: a run of m operations under the guard 'g == b', which may write; what its last one, in slot d, comes to if they are carried out is 'v'; what is kept: 'Kp'. -/
theorem oj_gW {l : List Oper} (Kp : Regs) (m dj d : Nat) {b g : Bool} {v : Value} (hK : subR L Kp) (hl : look L dj = some (.bool g)) (hs : skips ops C.N dj b (l.take m) [] = true) (hd : (l.take m).any (fun o => o.dst == some d) = true) (hf : freshR (l.take m) Kp = true)
    (hy : g = b → OJ C ops (NQ fun a w => RegsOk C.N C.D ((d, v) :: Kp) a ∧ Hp C.F C.w0 O S w) (l.take m) L O S)
    (k : OJ C ops Q (l.drop m) ((d, gd g b v) :: Kp) O S) : OJ C ops Q l L O S := by
  rw [← List.take_append_drop m l]
  by_cases hgb : g = b
  · subst hgb
    intro a w hr hp
    have h1 := hy rfl a w hr hp
    refine wpl_app _ _ _ _ ?_
    refine wpListIn_mono' (fun e a' w' h' => ?_) _ _ _ h1
    cases e <;> first | exact (show False from h').elim | skip
    have h2 : RegsOk C.N C.D ((d, v) :: Kp) a' ∧ Hp C.F C.w0 O S w' := h'
    have hg : gd g g v = v := by simp [gd]
    exact k a' w' (by rw [hg]; exact h2.1) h2.2
  · have hne : (g == b) = false := by simp [hgb]
    refine oj_of_gj _ _ _ (gj_skips hne _ [] L hs hl (by simp) fun L' h1 h2 h3 => ?_)
    obtain ⟨o, ho, hod⟩ := List.any_eq_true.1 hd
    have hod' : o.dst = some d := by simpa using hod
    have h4 := h3 o ho d hod'
    refine aj_anti (fun t u ht => ?_) k
    rw [look_cons] at ht
    by_cases e : d = t
    · subst e
      rw [if_pos rfl] at ht
      rw [h4, ← ht]; simp [gd, hne]
    · rw [if_neg e] at ht
      have hL : look L t = some u := by
        have hsub : ∀ (Kq : Regs), subR L Kq → ∀ t u, look Kq t = some u → look L t = some u := by
          intro Kq
          induction Kq with
          | nil => intro _ t u h; cases h
          | cons p r ih =>
            intro hq t u h
            rw [look_cons] at h
            by_cases e : p.1 = t
            · rw [if_pos e] at h
              rw [← e, hq.1]; exact h
            · rw [if_neg e] at h
              exact ih hq.2 t u h
        exact hsub Kp hK t u ht
      refine h2 t u hL (fun o' ho' he => ?_)
      have := List.all_eq_true.1 (freshR_look hf t u ht) o' ho'
      simp [he] at this
/-- At the run's end. -/
theorem ej_gW {d : Nat} {v : Value} {Kp : Regs} {O' S' : List Fact} (hL : subR L ((d, v) :: Kp)) [hO : SubO O' O] [hS : SubO S' S] : EJ C (NQ fun a w => RegsOk C.N C.D ((d, v) :: Kp) a ∧ Hp C.F C.w0 O' S' w) .normal L O S :=
  fun _ _ hr hp => ⟨hr.subR hL, hp.sub hO.sub (fun _ hf => hS.sub.subset hf)⟩
end
/-! ### Drawn regions with guards that are known -/
section
variable {C : Cx} {Q : Exit → Act → World → Prop} {l : List Oper} {n : Nat} {his : List Nat} {pend : List Pend} {L : Regs} {O S : List Fact}
theorem pl_case (dj : Nat) {g : Bool} (hl : look L dj = some (.bool g)) (ht : g = true → Plan C l Q n his pend L O S) (hf : g = false → Plan C l Q n his pend L O S) : Plan C l Q n his pend L O S := by
  cases g with
  | true => exact ht rfl
  | false => exact hf rfl
theorem steps_yY {o : Oper} {ops : Array Oper} {v : Value} {j dj : Nat} {b g : Bool} (ho : o.guard = some (j, b)) (hj : (ops[j]?).bind (·.dst) = some dj) (hl : look L dj = some (.bool g)) (e : g = b) (hy : Yi C o L O S v) : Steps1 C ops O S o L v :=
  fun a w hr hp => .inl ⟨by rw [wanted_of hr ho hj hl, e]; simp, hy.1, hy.2 a w hr hp⟩
theorem steps_yN {o : Oper} {ops : Array Oper} {j dj : Nat} {b g : Bool} (ho : o.guard = some (j, b)) (hj : (ops[j]?).bind (·.dst) = some dj) (hl : look L dj = some (.bool g)) (e : g = !b) : Steps1 C ops O S o L undef :=
  fun a w hr _ => .inr ⟨by rw [wanted_of hr ho hj hl, e]; cases b <;> rfl, rfl⟩
theorem pl_yY (i : Nat) {o : Oper} {d : Nat} {v : Value} {j dj : Nat} {b g : Bool} (hi : l[i]? = some o) (ho : o.guard = some (j, b)) (hj : (l.toArray[j]?).bind (·.dst) = some dj) (hl : look L dj = some (.bool g)) (e : g = b) (hy : Yi C o L O S v) (hd : o.dst = some d) (hdN : Nat.blt d C.N = true) (hn : his.contains i = false) (hs : seesOk l his i o = true)
    (k : Plan C l Q n (i :: his) (⟨i, o, L, v⟩ :: pend) ((d, v) :: L) O S) : Plan C l Q (n + 1) his pend L O S :=
  .inl ⟨i, o, d, v, hi, hd, by simpa [Nat.blt_eq] using hdN, by simpa using hn, hs, steps_yY ho hj hl e hy, k⟩
theorem pl_yN (i : Nat) {o : Oper} {d : Nat} {j dj : Nat} {b g : Bool} (hi : l[i]? = some o) (ho : o.guard = some (j, b)) (hj : (l.toArray[j]?).bind (·.dst) = some dj) (hl : look L dj = some (.bool g)) (e : g = !b) (hd : o.dst = some d) (hdN : Nat.blt d C.N = true) (hn : his.contains i = false) (hs : seesOk l his i o = true)
    (k : Plan C l Q n (i :: his) (⟨i, o, L, undef⟩ :: pend) ((d, undef) :: L) O S) : Plan C l Q (n + 1) his pend L O S :=
  .inl ⟨i, o, d, undef, hi, hd, by simpa [Nat.blt_eq] using hdN, by simpa using hn, hs, steps_yN ho hj hl e, k⟩
theorem pl_fireG {i : Nat} {o : Oper} {j dj : Nat} {b g : Bool} (hi : l[i]? = some o) (ho : o.guard = some (j, b)) (hj : (l.toArray[j]?).bind (·.dst) = some dj) (hl : look L dj = some (.bool g)) (e : g = b) (hd : (match o.dst with | some d => Nat.blt d C.N | none => true) = true) (hs : seesOk l his i o = true)
    (h : OJ C l.toArray (NP C Q fun a' w' => ∃ F' w0' L' O' S', RegsOk C.N C.D L' a' ∧ Hp F' w0' O' S' w' ∧ Later (C.mv F' w0') l pend o O' S' ∧ Plan (C.mv F' w0') l Q n (i :: his) pend L' O' S') [o] L O S) : Fires C l Q n his pend L O S i :=
  ⟨o, hi, fun a hr => by rw [wanted_of hr ho hj hl, e]; simp, fun d hd' => by rw [hd'] at hd; simpa [Nat.blt_eq] using hd, hs, h⟩
theorem lt_yY {o o' : Oper} {i : Nat} {L' : Regs} {v : Value} {j dj : Nat} {b g : Bool} (ho : o'.guard = some (j, b)) (hj : (l.toArray[j]?).bind (·.dst) = some dj) (hl : look L' dj = some (.bool g)) (e : g = b) (h : Yi C o' L' O S v) (k : Later C l pend o O S) : Later C l (⟨i, o', L', v⟩ :: pend) o O S := fun q hq => by
  rcases List.mem_cons.1 hq with e1 | e1
  · subst e1; exact .inr (steps_yY ho hj hl e h)
  · exact k q e1
theorem lt_yN {o o' : Oper} {i : Nat} {L' : Regs} {j dj : Nat} {b g : Bool} (ho : o'.guard = some (j, b)) (hj : (l.toArray[j]?).bind (·.dst) = some dj) (hl : look L' dj = some (.bool g)) (e : g = !b) (k : Later C l pend o O S) : Later C l (⟨i, o', L', undef⟩ :: pend) o O S := fun q hq => by
  rcases List.mem_cons.1 hq with e1 | e1
  · subst e1; exact .inr (steps_yN ho hj hl e)
  · exact k q e1
theorem oj_yesE {ops : Array Oper} {rest : List Oper} {o : Oper} {j dj : Nat} {b g : Bool} (ho : o.guard = some (j, b)) (hj : (ops[j]?).bind (·.dst) = some dj) (hl : look L dj = some (.bool g)) (e : g = b) (k : OJ C ops Q (⟨o.dst, o.op, o.type, o.pos, o.after, none⟩ :: rest) L O S) : OJ C ops Q (o :: rest) L O S :=
  oj_yes ho hj (by rw [hl, e]) k
end
section
variable {C : Cx} {L : Regs} {O S : List Fact} {dst : Option Tmp} {ty : TypeId} {pos : String} {aft : Array Edge} {gu : Option (Nat × Bool)} {c x y : Operand} {g : Bool}
theorem y_pickT {u : Value} (hc : val L c = some (.bool g)) (e : g = true) (hx : val L x = some u) : Yi C ⟨dst, .pick c x y, ty, pos, aft, gu⟩ L O S u :=
  yi_val (by intro c h; cases h) fun a w hr _ => by
    subst e; simp [execOp, hr.val hc, hr.val hx, asBool]
theorem y_pickF {v : Value} (hc : val L c = some (.bool g)) (e : g = false) (hy : val L y = some v) : Yi C ⟨dst, .pick c x y, ty, pos, aft, gu⟩ L O S v :=
  yi_val (by intro c h; cases h) fun a w hr _ => by
    subst e; simp [execOp, hr.val hc, hr.val hy, asBool]
end
theorem y_ixArrC {C : Cx} {L : Regs} {O S : List Fact} {dst : Option Tmp} {ty : TypeId} {pos : String} {aft : Array Edge} {gu : Option (Nat × Bool)} {x y : Operand} {s e n sz b k : Nat} {i : Int} {q : IntKind} (k' : Nat) (hu : C.P.underlying s = some (.array n e)) (hs : ∀ w, (sizeOf e).run C.P w = .ok sz w) (hx : val L x = some (.pointer (some ⟨b, k, none⟩))) (hy : val L y = some (.int q i)) (hi : 0 ≤ i ∧ i < n) (hk : k + i.toNat * sz = k') :
    Yi C ⟨dst, .indexAddr s x y, ty, pos, aft, gu⟩ L O S (.pointer (some ⟨b, k', none⟩)) := by
  subst hk; exact y_ixArr hu hs hx hy hi
/-! ### Facts in another order -/
theorem Hp.permO {F : Nat → Prop} {w0 w : World} {O O' S : List Fact} (h : Hp F w0 O S w) (hp : O.Perm O') : Hp F w0 O' S w :=
  ⟨h.os, h.tape, h.output, h.size, h.fr, fun f hf => h.own f (hp.symm.subset hf), hp.pairwise h.apart (fun hxy b hb hb' => hxy b hb' hb), fun f hf => ⟨(h.shared f hf).1, (h.shared f hf).2.1, fun g hg => (h.shared f hf).2.2 g (hp.symm.subset hg)⟩⟩
theorem ej_swapO {C : Cx} {Q : Exit → Act → World → Prop} {e : Exit} {L : Regs} {f g : Fact} {O S : List Fact} (k : EJ C Q e L (g :: f :: O) S) : EJ C Q e L (f :: g :: O) S :=
  fun a w hr hp => k a w hr (hp.permO (.swap _ _ _))
theorem cj_swapO {C : Cx} {Q : Exit → Act → World → Prop} {cd : Code} {L : Regs} {f g : Fact} {O S : List Fact} (k : CJ C cd Q L (g :: f :: O) S) : CJ C cd Q L (f :: g :: O) S :=
  fun a w hr hp => k a w hr (hp.permO (.swap _ _ _))
end Go.Sx
namespace Go.Proofs.YtlfbghkcfmcnlaaGreatDoor
open Go.Sx Go.RowKit
/-- What a token says of a trait. -/
def cutP (n t : ByteArray) : Option ByteArray := if (by_ (n ++ tEq)).isPrefixOf (by_ t) = true then some ⟨((by_ t).drop (by_ (n ++ tEq)).length).toArray⟩ else none
def rdS : List TraitV → List ByteArray → Option (List ByteArray × List ByteArray)
  | [], r => some ([], r)
  | t :: ts, r => match cutP t.name (r.headD ⟨#[]⟩) with
    | some s => if s = ⟨#[]⟩ then none else (rdS ts r.tail).map fun o => (s :: o.1, o.2)
    | none => (rdS ts r).map fun o => (⟨#[]⟩ :: o.1, o.2)
def rdP (f : List ByteArray → Option (IT × List ByteArray)) : Nat → List ByteArray → Option (List IT × List ByteArray)
  | 0, _ => none
  | n + 1, r => match f r with
    | none => none
    | some (_, []) => none
    | some (p, t :: z) => if t = tClose then some ([p], z) else if t = tSemi then (rdP f n z).map fun o => (p :: o.1, o.2) else none
def rdI (g : List (ByteArray × ClassV)) : Nat → List ByteArray → Option (IT × List ByteArray)
  | 0, _ => none
  | _ + 1, [] => none
  | d + 1, s :: r => match getL g s with
    | none => none
    | some c => match rdS c.traits r with
      | none => none
      | some (ss, []) => some (.mk s ss [], [])
      | some (ss, t :: q) => if t = tOpen then (rdP (rdI g d) q.length q).map (fun o => (.mk s ss o.1, o.2)) else some (.mk s ss [], t :: q)
theorem ba_l (l : List UInt8) : by_ ⟨l.toArray⟩ = l := rfl
theorem cut_some {n t s : ByteArray} (h : cutP n t = some s) : t = n ++ tEq ++ s := by
  unfold cutP at h
  split at h
  · rename_i hp
    have e := Option.some.inj h
    apply ba_ext
    rw [List.isPrefixOf_iff_prefix] at hp
    obtain ⟨u, hu⟩ := hp
    rw [← e]
    show by_ t = _
    rw [← hu, List.drop_left]
    show _ = by_ (n ++ tEq ++ ⟨u.toArray⟩)
    simp only [by_, ba_app]
  · cases h
theorem cut_tok (n s : ByteArray) : cutP n (n ++ tEq ++ s) = some s := by
  have e : by_ (n ++ tEq ++ s) = by_ (n ++ tEq) ++ by_ s := by simp only [by_, ba_app]
  unfold cutP
  rw [if_pos (by rw [e, List.isPrefixOf_iff_prefix]; exact List.prefix_append _ _), e, List.drop_left]
theorem cut_none {n t : ByteArray} (h : ∀ s, t ≠ n ++ tEq ++ s) : cutP n t = none := by
  cases hc : cutP n t with
  | none => rfl
  | some s => exact absurd (cut_some hc) (h s)
theorem tok_nn (n s : ByteArray) : n ++ tEq ++ s ≠ ⟨#[]⟩ := fun h => noE_tok (n := n) (s := s) (by rw [h]; exact List.not_mem_nil)
theorem nil_beq : ((⟨#[]⟩ : ByteArray) == ⟨#[]⟩) = true := by decide
theorem rdS_tok : ∀ (ts : List TraitV) (r ss q : List ByteArray), rdS ts r = some (ss, q) → ss.length = ts.length ∧ r = saidTok ts ss ++ q
  | [], r, ss, q, h => by
    rw [rdS] at h
    have e := Option.some.inj h
    rw [Prod.mk.injEq] at e
    rw [← e.1, ← e.2]; exact ⟨rfl, rfl⟩
  | t :: ts, r, ss, q, h => by
    rw [rdS] at h
    split at h
    · rename_i s hc
      split at h
      · cases h
      · rename_i hs
        rw [Option.map_eq_some_iff] at h
        obtain ⟨⟨a, b⟩, h1, h2⟩ := h
        rw [Prod.mk.injEq] at h2
        obtain ⟨ih1, ih2⟩ := rdS_tok ts _ _ _ h1
        rw [← h2.1, ← h2.2]
        refine ⟨by simp [ih1], ?_⟩
        rw [saidTok, if_neg (fun h => hs (bytes_eq h)), List.cons_append, ← ih2]
        cases r with
        | nil =>
          exact absurd (cut_some hc).symm (tok_nn _ _)
        | cons y r => rw [← cut_some hc]; rfl
    · rename_i hc
      rw [Option.map_eq_some_iff] at h
      obtain ⟨⟨a, b⟩, h1, h2⟩ := h
      rw [Prod.mk.injEq] at h2
      obtain ⟨ih1, ih2⟩ := rdS_tok ts _ _ _ h1
      rw [← h2.1, ← h2.2]
      refine ⟨by simp [ih1], ?_⟩
      rw [saidTok, if_pos nil_beq]
      exact ih2
theorem rdP_tok {g : List (ByteArray × ClassV)} {f : List ByteArray → Option (IT × List ByteArray)} (hf : ∀ T x r, f T = some (x, r) → T = tokT g x ++ r) : ∀ (n : Nat) (T : List ByteArray) (ps : List IT) (r : List ByteArray) (b : Bool), rdP f n T = some (ps, r) → ps ≠ [] ∧ (if b then tOpen else tSemi) :: T = tokP g b ps ++ tClose :: r
  | 0, _, _, _, _, h => by cases h
  | n + 1, T, ps, r, b, h => by
    rw [rdP] at h
    split at h
    · cases h
    · cases h
    · rename_i p t z hp
      have h1 := hf _ _ _ hp
      split at h
      · rename_i ht
        have e := Option.some.inj h
        rw [Prod.mk.injEq] at e
        rw [← e.1, ← e.2, h1, ht]
        refine ⟨by simp, ?_⟩
        rw [tokP, tokP]; simp
      · split at h
        · rename_i ht
          rw [Option.map_eq_some_iff] at h
          obtain ⟨⟨a, c⟩, h2, h3⟩ := h
          rw [Prod.mk.injEq] at h3
          obtain ⟨_, ih⟩ := rdP_tok hf n z a c false h2
          rw [← h3.1, ← h3.2, h1, ht]
          refine ⟨by simp, ?_⟩
          rw [tokP]
          have ih : tSemi :: z = tokP g false a ++ tClose :: c := ih
          rw [ih]; simp
        · cases h
/-- What was read are the tokens of what they say. -/
theorem rdI_tok (g : List (ByteArray × ClassV)) : ∀ (d : Nat) (T : List ByteArray) (x : IT) (r : List ByteArray), rdI g d T = some (x, r) → T = tokT g x ++ r
  | 0, _, _, _, h => by cases h
  | _ + 1, [], _, _, h => by cases h
  | d + 1, s :: T, x, r, h => by
    rw [rdI] at h
    split at h
    · cases h
    · rename_i c hc
      have htr : traitsOf g s = c.traits := by unfold traitsOf; rw [hc]; rfl
      split at h
      · cases h
      · rename_i ss hs
        have e := Option.some.inj h
        rw [Prod.mk.injEq] at e
        obtain ⟨_, h2⟩ := rdS_tok _ _ _ _ hs
        rw [← e.1, ← e.2, tokT_eq, h2]
        show s :: _ = (s :: saidTok (traitsOf g s) ss) ++ (tokP g true [] ++ _) ++ _
        rw [htr, tokP]; simp [IT.parts]
      · rename_i ss t q hs
        obtain ⟨_, h2⟩ := rdS_tok _ _ _ _ hs
        split at h
        · rename_i ht
          rw [Option.map_eq_some_iff] at h
          obtain ⟨⟨a, c2⟩, h3, h4⟩ := h
          rw [Prod.mk.injEq] at h4
          obtain ⟨hne, h5⟩ := rdP_tok (fun T x r hx => rdI_tok g d T x r hx) _ _ _ _ true h3
          have h5 : tOpen :: q = tokP g true a ++ tClose :: c2 := h5
          rw [← h4.1, ← h4.2, tokT_eq, h2, ht, h5]
          have hlen : ¬ a.length = 0 := fun h => hne (List.length_eq_zero_iff.1 h)
          show s :: _ = (s :: saidTok (traitsOf g s) ss) ++ (tokP g true a ++ (if a.length = 0 then [] else [tClose])) ++ _
          rw [htr, if_neg hlen]; simp
        · have e := Option.some.inj h
          rw [Prod.mk.injEq] at e
          rw [← e.1, ← e.2, tokT_eq, h2]
          show s :: _ = (s :: saidTok (traitsOf g s) ss) ++ (tokP g true [] ++ _) ++ _
          rw [htr, tokP]; simp [IT.parts]
/-! what was printed is read -/
theorem said_mem : ∀ (tt : List TraitV) (vv : List ByteArray) (z : ByteArray), z ∈ saidTok tt vv → ∃ u ∈ tt, ∃ v, z = u.name ++ tEq ++ v
  | [], _, _, h => by simp [saidTok] at h
  | _ :: _, [], _, h => by simp [saidTok] at h
  | u :: tt, v :: vv, z, h => by
    rw [saidTok] at h
    split at h
    · obtain ⟨u', h1, h2⟩ := said_mem tt vv z h
      exact ⟨u', List.mem_cons_of_mem _ h1, h2⟩
    · rcases List.mem_cons.1 h with rfl | h
      · exact ⟨u, List.mem_cons_self .., v, rfl⟩
      · obtain ⟨u', h1, h2⟩ := said_mem tt vv z h
        exact ⟨u', List.mem_cons_of_mem _ h1, h2⟩
theorem tok_rdS : ∀ (ts : List TraitV) (ss q : List ByteArray), ss.length = ts.length → (∀ t ∈ ts, isW t.name = true) → (ts.map (·.name)).Nodup → stopE q → rdS ts (saidTok ts ss ++ q) = some (ss, q)
  | [], [], q, _, _, _, _ => by
    rw [rdS]
    simp [saidTok]
  | [], _ :: _, _, h, _, _, _ => by cases h
  | _ :: _, [], _, h, _, _, _ => by cases h
  | t :: ts, s :: ss, q, hl, hw, hn, hq => by
    rw [List.map_cons, List.nodup_cons] at hn
    have htw := w_noE (hw t (List.mem_cons_self ..))
    have ih := tok_rdS ts ss q (by simpa using hl) (fun u hu => hw u (List.mem_cons_of_mem _ hu)) hn.2 hq
    rw [saidTok]
    by_cases e : (s == (⟨#[]⟩ : ByteArray)) = true
    · rw [if_pos e, rdS]
      have hc : cutP t.name ((saidTok ts ss ++ q).headD ⟨#[]⟩) = none := by
        refine cut_none fun v hv => ?_
        cases hx : saidTok ts ss with
        | nil =>
          rw [hx, List.nil_append] at hv
          cases q with
          | nil =>
            exact absurd hv.symm (tok_nn _ _)
          | cons y q =>
            have hv : y = t.name ++ tEq ++ v := hv
            have hq : noE y := hq
            rw [hv] at hq
            exact noE_tok hq
        | cons y r =>
          rw [hx] at hv
          have hv : y = t.name ++ tEq ++ v := hv
          obtain ⟨u, hu, v', hv'⟩ := said_mem ts ss y (by rw [hx]; exact List.mem_cons_self ..)
          rw [hv'] at hv
          have := eqTok (w_noE (hw u (List.mem_cons_of_mem _ hu))) htw hv
          exact hn.1 (List.mem_map.2 ⟨u, hu, this.1⟩)
      rw [hc, ih, bytes_eq e]; rfl
    · rw [if_neg e, rdS]
      have hc : cutP t.name (((t.name ++ tEq ++ s) :: saidTok ts ss ++ q).headD ⟨#[]⟩) = some s := cut_tok _ _
      rw [hc]
      dsimp only
      rw [if_neg (fun h => e (by rw [h]; exact nil_beq))]
      show Option.map _ (rdS ts (saidTok ts ss ++ q)) = _
      rw [ih]; rfl
theorem tokT_pos (g : List (ByteArray × ClassV)) (x : IT) : 1 ≤ (tokT g x).length := by rw [tokT_eq]; simp
theorem tok_rdP {g : List (ByteArray × ClassV)} {f : List ByteArray → Option (IT × List ByteArray)} : ∀ (ps : List IT) (n : Nat) (r T : List ByteArray) (b : Bool), (∀ p ∈ ps, ∀ q, stopT q → f (tokT g p ++ q) = some (p, q)) → ps ≠ [] → (if b then tOpen else tSemi) :: T = tokP g b ps ++ tClose :: r → T.length ≤ n → rdP f n T = some (ps, r)
  | [], _, _, _, _, _, hne, _, _ => absurd rfl hne
  | p :: ps, n, r, T, b, hf, _, hT, hn => by
    rw [tokP, List.cons_append, List.cons.injEq, List.append_assoc] at hT
    have hT := hT.2
    have hlen := congrArg List.length hT
    simp only [List.length_append, List.length_cons] at hlen
    have htp := tokT_pos g p
    obtain ⟨m, rfl⟩ : ∃ m, n = m + 1 := ⟨n - 1, by omega⟩
    rw [rdP]
    cases hps : ps with
    | nil =>
      rw [hps, tokP, List.nil_append] at hT
      rw [hT, hf p (List.mem_cons_self ..) _ (show stopT (_ :: _) from Or.inl rfl)]
      dsimp only
      rw [if_pos rfl]
    | cons p2 ps2 =>
      rw [hps, tokP, List.cons_append] at hT
      have hT : T = tokT g p ++ (tSemi :: (tokT g p2 ++ tokP g false ps2 ++ tClose :: r)) := hT
      rw [hT, hf p (List.mem_cons_self ..) _ (show stopT (_ :: _) from Or.inr rfl)]
      dsimp only
      rw [if_neg (by decide), if_pos rfl]
      have ih := tok_rdP (g := g) (f := f) (p2 :: ps2) m r (tokT g p2 ++ tokP g false ps2 ++ tClose :: r) false (fun q hq => hf q (by rw [hps]; exact List.mem_cons_of_mem _ hq)) (by simp) (by rw [tokP]; rfl) (by
        have h9 := congrArg List.length hT
        simp only [List.length_append, List.length_cons] at h9 ⊢
        omega)
      rw [ih]; rfl
theorem tok_rdI {g : List (ByteArray × ClassV)} : ∀ (d : Nat) (x : IT) (r : List ByteArray), OkN g x → OkT g x → depT x ≤ d → stopT r → rdI g d (tokT g x ++ r) = some (x, r)
  | 0, x, _, _, _, hd, _ => by rw [depT_eq] at hd; omega
  | d + 1, x, r, hx, hk, hd, hr => by
    obtain ⟨c, hc, hcl, _⟩ := hk.get
    have htr : traitsOf g x.cls = c.traits := by unfold traitsOf; rw [hc]; rfl
    have hxe : x = .mk x.cls x.says x.parts := by obtain ⟨_, _, _⟩ := x; rfl
    rw [depT_eq] at hd
    have hq : ∀ q : List ByteArray, stopE q → rdS c.traits (saidTok c.traits x.says ++ q) = some (x.says, q) := fun q hq => tok_rdS _ _ q hcl (by rw [← htr]; exact hx.tw) (by rw [← htr]; exact hx.tn) hq
    rw [tokT_eq, htr]
    cases hp : x.parts with
    | nil =>
      have e : x.cls :: saidTok c.traits x.says ++ (tokP g true [] ++ if ([] : List IT).length = 0 then [] else [tClose]) ++ r = x.cls :: (saidTok c.traits x.says ++ r) := by rw [tokP]; simp
      rw [e, rdI, hc]
      dsimp only
      rw [hq r (stopT_E hr)]
      have hxe2 : IT.mk x.cls x.says [] = x := by rw [← hp]; exact hxe.symm
      cases r with
      | nil => dsimp only; rw [hxe2]
      | cons t q =>
        dsimp only
        rw [if_neg (by rcases hr with h | h <;> rw [h] <;> decide), hxe2]
    | cons p l =>
      have hT : tokP g true (p :: l) ++ tClose :: r = tOpen :: (tokT g p ++ tokP g false l ++ tClose :: r) := by rw [tokP]; simp
      have e : x.cls :: saidTok c.traits x.says ++ (tokP g true (p :: l) ++ if (p :: l).length = 0 then [] else [tClose]) ++ r = x.cls :: (saidTok c.traits x.says ++ tOpen :: (tokT g p ++ tokP g false l ++ tClose :: r)) := by
        rw [← hT]; simp
      rw [e, rdI, hc]
      dsimp only
      rw [hq _ (show stopE (tOpen :: _) from by show (61 : UInt8) ∉ _; decide)]
      dsimp only
      rw [if_pos rfl, tok_rdP (g := g) (p :: l) _ r _ true (fun q hq2 z hz => tok_rdI d q z (hx.pt q (by rw [hp]; exact hq2)) (hk.pt q (by rw [hp]; exact hq2)) (by
        have := depL_le x.parts q (by rw [hp]; exact hq2)
        omega) hz) (by simp) hT.symm (Nat.le_refl _)]
      show some (IT.mk x.cls x.says (p :: l), r) = _
      rw [← hp, ← hxe]
end Go.Proofs.YtlfbghkcfmcnlaaGreatDoor
namespace Go.Proofs.YtlfbghkcfmcnlaaGreatDoor
open Go.Sx Go.RowKit
theorem idx_miss {s : ByteArray} (h : Lib.indexB s tBl = -1) : noB s := by
  have h1 : Lib.indexByte s.data.toList 32 = -1 := by rw [← Lib.index_one]; exact h
  intro hm
  obtain ⟨k, hk⟩ := List.getElem?_of_mem hm
  exact Lib.indexByte_none h1 k hk
theorem idx_hit {s : ByteArray} {i : Nat} (h : Lib.indexB s tBl = i) : noB (s.extract 0 (i + 0)) ∧ by_ s = by_ (s.extract 0 (i + 0)) ++ 32 :: by_ (s.extract (i + tBl.size) s.size) := by
  have h1 : Lib.indexByte s.data.toList 32 = i := by rw [← Lib.index_one]; exact h
  obtain ⟨h2, h3⟩ := Lib.indexByte_some h1
  have e1 : by_ (s.extract 0 (i + 0)) = s.data.toList.take i := Lib.extract_from_zero s i
  have e2 : by_ (s.extract (i + tBl.size) s.size) = s.data.toList.drop (i + 1) := Lib.extract_to_end s (i + 1)
  refine ⟨?_, ?_⟩
  · intro hm
    rw [e1] at hm
    obtain ⟨k, hk⟩ := List.getElem?_of_mem hm
    rw [List.getElem?_take] at hk
    split at hk
    · rename_i hki
      exact h3 k hki hk
    · cases hk
  · rw [e1, e2]
    obtain ⟨h4, h5⟩ := List.getElem?_eq_some_iff.1 h2
    conv => lhs; rw [show by_ s = s.data.toList from rfl, ← List.take_append_drop i s.data.toList, List.drop_eq_getElem_cons h4, h5]
theorem split_ok : ∀ (k : Nat) (s : ByteArray), Lib.countB s tBl = k → (∀ u ∈ Lib.splitB tBl 0 k s, noB u) ∧ ∃ a R, Lib.splitB tBl 0 k s = a :: R ∧ by_ a ++ by_ (bl R) = by_ s
  | 0, s, hk => by
    rcases Lib.indexB_cases s tBl with h | ⟨i, h, _⟩
    · rw [Lib.splitB_zero]
      refine ⟨fun u hu => ?_, s, [], rfl, by simp [bl, by_]⟩
      rw [List.mem_singleton.1 hu]
      exact idx_miss h
    · have := Lib.countB_hit s tBl i (by decide) h
      omega
  | k + 1, s, hk => by
    rcases Lib.indexB_cases s tBl with h | ⟨i, h, _⟩
    · rw [Lib.countB_miss s tBl h] at hk; omega
    · have hc := Lib.countB_hit s tBl i (by decide) h
      obtain ⟨h1, h2⟩ := idx_hit h
      rw [Lib.splitB_hit tBl 0 k s i h]
      obtain ⟨ih1, a, R, ih2, ih3⟩ := split_ok k (s.extract (i + tBl.size) s.size) (by omega)
      refine ⟨fun u hu => ?_, _, _, rfl, ?_⟩
      · rcases List.mem_cons.1 hu with rfl | hu
        · exact h1
        · exact ih1 u hu
      · rw [h2, ih2, bl, ← ih3]
        simp [by_, ba_app]
def splitT (s : ByteArray) : List ByteArray := Lib.splitB tBl 0 (Lib.countB s tBl) s
/-- Tokens without blanks are what their text is cut into. -/
theorem split_jn {t : ByteArray} {T : List ByteArray} (hT : ∀ u ∈ t :: T, noB u) : splitT (jn (t :: T)) = t :: T := by
  obtain ⟨h1, a, R, h2, h3⟩ := split_ok _ (jn (t :: T)) rfl
  rw [h2] at h1
  rw [splitT, h2]
  refine jn_inj R T a t h1 hT ?_
  rw [h3, jn_bl]
  simp [by_, ba_app]
theorem jn_split (s : ByteArray) : jn (splitT s) = s := by
  obtain ⟨h1, a, R, h2, h3⟩ := split_ok _ s rfl
  rw [splitT, h2, jn_bl]
  apply ba_ext
  have : by_ (a ++ bl R) = by_ s := by rw [← h3]; simp [by_, ba_app]
  exact this
theorem bl_sz : ∀ T : List ByteArray, T.length ≤ (bl T).size ∧ ∀ u ∈ T, u.size ≤ (bl T).size
  | [] => ⟨Nat.zero_le _, fun u h => by cases h⟩
  | s :: T => by
    obtain ⟨h1, h2⟩ := bl_sz T
    have e : (bl (s :: T)).size = 1 + (s.size + (bl T).size) := by
      rw [bl, ByteArray.size_append, ByteArray.size_append]; rfl
    refine ⟨by rw [List.length_cons]; omega, fun u hu => ?_⟩
    rcases List.mem_cons.1 hu with rfl | hu
    · omega
    · have := h2 u hu; omega
theorem split_sz (s : ByteArray) : (splitT s).length ≤ s.size + 1 ∧ ∀ u ∈ splitT s, u.size ≤ s.size := by
  obtain ⟨_, a, R, h2, _⟩ := split_ok _ s rfl
  have h4 := jn_split s
  have h5 : splitT s = a :: R := h2
  rw [h5] at h4 ⊢
  obtain ⟨h6, h7⟩ := bl_sz R
  have e : s.size = a.size + (bl R).size := by rw [← h4, jn_bl, ByteArray.size_append]
  refine ⟨by rw [List.length_cons]; omega, fun u hu => ?_⟩
  rcases List.mem_cons.1 hu with rfl | hu
  · omega
  · have := h7 u hu; omega
end Go.Proofs.YtlfbghkcfmcnlaaGreatDoor
namespace Go.Proofs.YtlfbghkcfmcnlaaGreatDoor
open Go.Sx Go.RowKit
/-- Pieces between bytes; what is in front of the first one so far. -/
def cutA (c : UInt8) : List UInt8 → List UInt8 → List (List UInt8)
  | pre, [] => [pre]
  | pre, b :: l => if b = c then pre :: cutA c [] l else cutA c (pre ++ [b]) l
def cutT (c : UInt8) (s : ByteArray) : List ByteArray := (cutA c [] (by_ s)).map fun l => ⟨l.toArray⟩
theorem cutA_no {c : UInt8} : ∀ (l pre : List UInt8), c ∉ l → cutA c pre l = [pre ++ l]
  | [], pre, _ => by rw [cutA, List.append_nil]
  | b :: l, pre, h => by
    rw [cutA, if_neg (fun e => h (by rw [e]; exact List.mem_cons_self ..)), cutA_no l _ (fun hm => h (List.mem_cons_of_mem _ hm)), List.append_assoc]; rfl
theorem cutA_at {c : UInt8} : ∀ (a l pre : List UInt8), c ∉ a → cutA c pre (a ++ c :: l) = (pre ++ a) :: cutA c [] l
  | [], l, pre, _ => by rw [List.nil_append, cutA, if_pos rfl, List.append_nil]
  | b :: a, l, pre, h => by
    rw [List.cons_append, cutA, if_neg (fun e => h (by rw [e]; exact List.mem_cons_self ..)), cutA_at a l _ (fun hm => h (List.mem_cons_of_mem _ hm)), List.append_assoc]; rfl
theorem cutA_ne (c : UInt8) : ∀ (l pre : List UInt8), cutA c pre l ≠ []
  | [], _ => by rw [cutA]; simp
  | b :: l, pre => by
    rw [cutA]
    split
    · simp
    · exact cutA_ne c l _
/-- The pieces have none of the bytes, and are the text. -/
theorem cutA_ok : ∀ (l pre : List UInt8), (32 : UInt8) ∉ pre → (∀ u ∈ cutA 32 pre l, (32 : UInt8) ∉ u) ∧ ∃ a R, cutA 32 pre l = a :: R ∧ a ++ by_ (bl (R.map fun l => ⟨l.toArray⟩)) = pre ++ l
  | [], pre, h => by
    rw [cutA]
    refine ⟨fun u hu => by rw [List.mem_singleton.1 hu]; exact h, pre, [], rfl, by simp [bl, by_]⟩
  | b :: l, pre, h => by
    rw [cutA]
    by_cases hb : b = 32
    · rw [if_pos hb]
      obtain ⟨ih1, a, R, ih2, ih3⟩ := cutA_ok l [] (by simp)
      refine ⟨fun u hu => ?_, pre, cutA 32 [] l, rfl, ?_⟩
      · rcases List.mem_cons.1 hu with rfl | hu
        · exact h
        · exact ih1 u hu
      · rw [ih2, List.map_cons, bl]
        have e : by_ (tBl ++ ((⟨a.toArray⟩ : ByteArray) ++ bl (R.map fun l => ⟨l.toArray⟩))) = 32 :: (a ++ by_ (bl (R.map fun l => ⟨l.toArray⟩))) := by simp [by_, ba_app]
        rw [e, ih3, hb, List.nil_append]
    · rw [if_neg hb]
      obtain ⟨ih1, a, R, ih2, ih3⟩ := cutA_ok l (pre ++ [b]) (by
        intro hm
        rcases List.mem_append.1 hm with hm | hm
        · exact h hm
        · exact hb (List.mem_singleton.1 hm).symm)
      exact ⟨ih1, a, R, ih2, by rw [ih3]; simp⟩
theorem cut_split (s : ByteArray) : cutT 32 s = splitT s := by
  obtain ⟨h1, a, R, h2, h3⟩ := cutA_ok (by_ s) [] (by simp)
  obtain ⟨g1, b, Q, g2, g3⟩ := split_ok _ s rfl
  rw [h2] at h1
  rw [g2] at g1
  rw [cutT, splitT, g2, h2, List.map_cons]
  refine jn_inj _ Q _ b (fun u hu => ?_) g1 (by rw [g3]; exact h3)
  rw [← List.map_cons (f := fun l : List UInt8 => (⟨l.toArray⟩ : ByteArray))] at hu
  obtain ⟨v, hv, rfl⟩ := List.mem_map.1 hu
  exact h1 v hv
def setS (names says : List ByteArray) (a b : ByteArray) : List ByteArray := if 0 ≤ firstS a names 0 then says.set (firstS a names 0).toNat b else says
def refS (names : List ByteArray) : List ByteArray → List ByteArray → List ByteArray × List ByteArray
  | says, [] => (says, [])
  | says, t :: r => match cutT 61 t with
    | [a, b] => refS names (setS names says a b) r
    | _ => (says, t :: r)
def refP (f : List ByteArray → IT × Nat) (l : List ByteArray) : Nat → Nat → List IT × Nat
  | 0, at_ => ([], at_)
  | n + 1, at_ => match l[at_]? with
    | none => ([], at_)
    | some t => if t = tClose then ([], at_) else ((f (l.drop (at_ + 1))).1 :: (refP f l n (at_ + 1 + (f (l.drop (at_ + 1))).2)).1, (refP f l n (at_ + 1 + (f (l.drop (at_ + 1))).2)).2)
def refI (l : List ClassV) : Nat → List ByteArray → IT × Nat
  | 0, T => (.mk ⟨#[]⟩ [] [], T.length)
  | _ + 1, [] => (.mk ⟨#[]⟩ [] [], 0)
  | d + 1, s :: r => match refS (((clsOf l s).getD zC).traits.map (·.name)) (List.replicate ((clsOf l s).getD zC).traits.length ⟨#[]⟩) r with
    | (ss, []) => (.mk s ss [], 1 + r.length)
    | (ss, t :: q) => if t = tOpen then (.mk s ss (refP (refI l d) (s :: r) (r.length + 1) (r.length - q.length)).1, (refP (refI l d) (s :: r) (r.length + 1) (r.length - q.length)).2 + 1) else (.mk s ss [], r.length - q.length)
/-! what was printed -/
theorem cut_tok2 {n s : ByteArray} (hn : noE n) (hs : noE s) : cutT 61 (n ++ tEq ++ s) = [n, s] := by
  have e : by_ (n ++ tEq ++ s) = by_ n ++ 61 :: by_ s := by simp only [by_, ba_app]; simp
  rw [cutT, e, cutA_at _ _ _ hn, cutA_no _ _ hs]; rfl
theorem cut_one {t : ByteArray} (h : noE t) : cutT 61 t = [t] := by rw [cutT, cutA_no _ _ h]; rfl
theorem firstS_nth {names : List ByteArray} (hn : names.Nodup) {k : Nat} {s : ByteArray} (h : names[k]? = some s) : firstS s names 0 = k := by
  have h1 := firstS_at s names k 0 h
  have h2 : hasW (names.take k) s = false := by
    cases hh : hasW (names.take k) s with
    | false => rfl
    | true =>
      have hm := hasW_mem hh
      obtain ⟨j, hj⟩ := List.getElem?_of_mem hm
      rw [List.getElem?_take] at hj
      split at hj
      · rename_i hjk
        obtain ⟨a1, a2⟩ := List.getElem?_eq_some_iff.1 hj
        obtain ⟨b1, b2⟩ := List.getElem?_eq_some_iff.1 h
        have := (List.nodup_iff_pairwise_ne.1 hn)
        exact absurd (a2.trans b2.symm) (List.pairwise_iff_getElem.1 this j k a1 b1 hjk)
      · cases hj
  rw [h2] at h1
  simpa using h1
/-- What is said, put where it belongs. -/
theorem ref_said {full : List TraitV} (hw : ∀ t ∈ full, isW t.name = true) (hn : (full.map (·.name)).Nodup) : ∀ (ts : List TraitV) (ss : List ByteArray) (k : Nat) (acc q : List ByteArray), full.drop k = ts → ss.length = ts.length → acc.length = k → (∀ s ∈ ss, s = ⟨#[]⟩ ∨ isW s = true) → stopE q →
    refS (full.map (·.name)) (acc ++ List.replicate ts.length ⟨#[]⟩) (saidTok ts ss ++ q) = (acc ++ ss, q)
  | [], [], k, acc, q, _, _, _, _, hq => by
    rw [show saidTok ([] : List TraitV) [] = [] by simp [saidTok], List.nil_append]
    cases q with
    | nil => rw [refS]; rfl
    | cons t q =>
      have ht : noE t := hq
      rw [refS, cut_one ht]; rfl
  | [], _ :: _, _, _, _, _, h, _, _, _ => by cases h
  | _ :: _, [], _, _, _, _, h, _, _, _ => by cases h
  | t :: ts, s :: ss, k, acc, q, hd, hl, ha, hs, hq => by
    have hk : full[k]? = some t := by
      have := congrArg (fun l : List TraitV => l[0]?) hd
      simpa using this
    have hkn : (full.map (·.name))[k]? = some t.name := by rw [List.getElem?_map, hk]; rfl
    have hd2 : full.drop (k + 1) = ts := by
      have := congrArg List.tail hd
      simpa using this
    have htm : t ∈ full := List.mem_of_getElem? hk
    have ih := fun s' => ref_said hw hn ts ss (k + 1) (acc ++ [s']) q hd2 (by simpa using hl) (by simp [ha]) (fun u hu => hs u (List.mem_cons_of_mem _ hu)) hq
    rw [saidTok]
    by_cases e : (s == (⟨#[]⟩ : ByteArray)) = true
    · rw [if_pos e]
      have e2 := ih ⟨#[]⟩
      rw [bytes_eq e]
      have : acc ++ List.replicate (t :: ts).length (⟨#[]⟩ : ByteArray) = acc ++ [⟨#[]⟩] ++ List.replicate ts.length ⟨#[]⟩ := by
        rw [List.length_cons, List.replicate_succ]; simp
      rw [this, e2]; simp
    · rw [if_neg e, List.cons_append, refS]
      have hsw : isW s = true := by
        rcases hs s (List.mem_cons_self ..) with h | h
        · rw [h] at e; exact absurd nil_beq e
        · exact h
      rw [cut_tok2 (w_noE (hw t htm)) (w_noE hsw)]
      dsimp only
      have e2 := ih s
      have hset : setS (full.map (·.name)) (acc ++ List.replicate (t :: ts).length (⟨#[]⟩ : ByteArray)) t.name s = acc ++ [s] ++ List.replicate ts.length ⟨#[]⟩ := by
        unfold setS
        rw [firstS_nth hn hkn, if_pos (by omega), Int.toNat_natCast, List.set_append, if_neg (by omega), ha, Nat.sub_self, List.length_cons, List.replicate_succ, List.set_cons_zero]; simp
      rw [hset, e2]; simp
theorem ref_parts {g : List (ByteArray × ClassV)} {f : List ByteArray → IT × Nat} (l : List ByteArray) : ∀ (ps : List IT) (n at_ : Nat) (r : List ByteArray) (b : Bool), (∀ p ∈ ps, ∀ q, stopT q → f (tokT g p ++ q) = (p, (tokT g p).length)) → l.drop at_ = tokP g b ps ++ tClose :: r → ps.length < n → at_ ≤ l.length →
    refP f l n at_ = (ps, at_ + (tokP g b ps).length)
  | [], n, at_, r, b, _, hd, hn, _ => by
    obtain ⟨m, rfl⟩ : ∃ m, n = m + 1 := ⟨n - 1, by omega⟩
    have hk : l[at_]? = some tClose := by
      have := congrArg (fun l : List ByteArray => l[0]?) hd
      rw [tokP] at this
      simpa using this
    rw [refP, hk]
    dsimp only
    rw [if_pos rfl, tokP]; rfl
  | p :: ps, n, at_, r, b, hf, hd, hn, hle => by
    obtain ⟨m, rfl⟩ : ∃ m, n = m + 1 := ⟨n - 1, by omega⟩
    have hd2 : l.drop at_ = (if b then tOpen else tSemi) :: (tokT g p ++ (tokP g false ps ++ tClose :: r)) := by
      rw [hd, tokP]; simp
    have hk : l[at_]? = some (if b then tOpen else tSemi) := by
      have := congrArg (fun l : List ByteArray => l[0]?) hd2
      simpa using this
    have hd3 : l.drop (at_ + 1) = tokT g p ++ (tokP g false ps ++ tClose :: r) := by
      have := congrArg List.tail hd2
      simpa using this
    have hst : stopT (tokP g false ps ++ tClose :: r) := by
      cases ps with
      | nil => rw [tokP]; exact Or.inl rfl
      | cons p2 ps2 => rw [tokP]; exact Or.inr rfl
    have hfp := hf p (List.mem_cons_self ..) _ hst
    have hd4 : l.drop (at_ + 1 + (tokT g p).length) = tokP g false ps ++ tClose :: r := by
      rw [← List.drop_drop, hd3, List.drop_left]
    have hlen := congrArg List.length hd3
    rw [List.length_drop, List.length_append, List.length_append, List.length_cons] at hlen
    have ih := ref_parts (g := g) (f := f) l ps m (at_ + 1 + (tokT g p).length) r false (fun q hq => hf q (List.mem_cons_of_mem _ hq)) hd4 (by simp only [List.length_cons] at hn; omega) (by omega)
    rw [refP, hk]
    dsimp only
    rw [if_neg (by cases b <;> decide), hd3, hfp]
    dsimp only
    rw [ih, tokP]
    simp only [List.length_cons, List.length_append]
    rw [Prod.mk.injEq]
    exact ⟨rfl, by omega⟩
theorem tokP_pos (g : List (ByteArray × ClassV)) : ∀ (b : Bool) (ps : List IT), ps.length ≤ (tokP g b ps).length
  | _, [] => Nat.zero_le _
  | b, p :: ps => by
    rw [tokP]
    have := tokP_pos g false ps
    simp only [List.length_cons, List.length_append]; omega
theorem tok_refI {l : List ClassV} (hg : gramOk l = true) : ∀ (d : Nat) (x : IT) (r : List ByteArray), OkN (gramM l) x → OkT (gramM l) x → depT x ≤ d → stopT r → refI l d (tokT (gramM l) x ++ r) = (x, (tokT (gramM l) x).length)
  | 0, x, _, _, _, hd, _ => by rw [depT_eq] at hd; omega
  | d + 1, x, r, hx, hk, hd, hr => by
    obtain ⟨c, hc, hcl, _⟩ := hk.get
    have htr : traitsOf (gramM l) x.cls = c.traits := by unfold traitsOf; rw [hc]; rfl
    have hxe : x = .mk x.cls x.says x.parts := by obtain ⟨_, _, _⟩ := x; rfl
    have hcc : clsOf l x.cls = some c := by rw [← getL_gram hg]; exact hc
    rw [depT_eq] at hd
    have hq : ∀ q : List ByteArray, stopE q → refS (c.traits.map (·.name)) (List.replicate c.traits.length ⟨#[]⟩) (saidTok c.traits x.says ++ q) = (x.says, q) := fun q hq => by
      have h := ref_said (full := c.traits) (by rw [← htr]; exact hx.tw) (by rw [← htr]; exact hx.tn) c.traits x.says 0 [] q (by simp) hcl rfl hx.sw hq
      simpa using h
    rw [tokT_eq, htr]
    cases hp : x.parts with
    | nil =>
      have e : x.cls :: saidTok c.traits x.says ++ (tokP (gramM l) true [] ++ if ([] : List IT).length = 0 then [] else [tClose]) ++ r = x.cls :: (saidTok c.traits x.says ++ r) := by rw [tokP]; simp
      have e2 : (x.cls :: saidTok c.traits x.says ++ (tokP (gramM l) true [] ++ if ([] : List IT).length = 0 then [] else [tClose])).length = 1 + (saidTok c.traits x.says).length := by rw [tokP]; simp; omega
      rw [e, e2, refI, hcc]
      dsimp only [Option.getD]
      rw [hq r (stopT_E hr)]
      have hxe2 : IT.mk x.cls x.says [] = x := by rw [← hp]; exact hxe.symm
      cases r with
      | nil => dsimp only; rw [hxe2, List.append_nil]
      | cons t q =>
        dsimp only
        rw [if_neg (by rcases hr with h | h <;> rw [h] <;> decide), hxe2, List.length_append, List.length_cons, Prod.mk.injEq]
        exact ⟨rfl, by omega⟩
    | cons p ps =>
      have hT : tokP (gramM l) true (p :: ps) ++ tClose :: r = tOpen :: (tokT (gramM l) p ++ tokP (gramM l) false ps ++ tClose :: r) := by rw [tokP]; simp
      have e : x.cls :: saidTok c.traits x.says ++ (tokP (gramM l) true (p :: ps) ++ if (p :: ps).length = 0 then [] else [tClose]) ++ r = x.cls :: (saidTok c.traits x.says ++ tOpen :: (tokT (gramM l) p ++ tokP (gramM l) false ps ++ tClose :: r)) := by
        rw [← hT]; simp
      generalize hR : saidTok c.traits x.says ++ tOpen :: (tokT (gramM l) p ++ tokP (gramM l) false ps ++ tClose :: r) = R at e
      have hRl := congrArg List.length hR
      rw [e, refI, hcc]
      dsimp only [Option.getD]
      rw [← hR, hq _ (show stopE (tOpen :: _) from by show (61 : UInt8) ∉ _; decide)]
      dsimp only
      rw [if_pos rfl, hR]
      have hat : R.length - (tokT (gramM l) p ++ tokP (gramM l) false ps ++ tClose :: r).length = (saidTok c.traits x.says).length + 1 := by
        rw [← hRl, List.length_append, List.length_cons]; omega
      rw [hat]
      have hdr : (x.cls :: R).drop ((saidTok c.traits x.says).length + 1) = tokP (gramM l) true (p :: ps) ++ tClose :: r := by
        rw [List.drop_succ_cons, ← hR, List.drop_left, hT]
      have hpl := tokP_pos (gramM l) true (p :: ps)
      have hl2 := congrArg List.length hT
      simp only [List.length_append, List.length_cons] at hl2 hRl hpl
      have hrp := ref_parts (g := gramM l) (f := refI l d) (x.cls :: R) (p :: ps) (R.length + 1) _ r true (fun q hq2 z hz => tok_refI hg d q z (hx.pt q (by rw [hp]; exact hq2)) (hk.pt q (by rw [hp]; exact hq2)) (by
        have := depL_le x.parts q (by rw [hp]; exact hq2)
        omega) hz) hdr (by simp only [List.length_cons]; omega) (by simp only [List.length_cons]; omega)
      rw [hrp, ← hp, ← hxe, Prod.mk.injEq]
      refine ⟨rfl, ?_⟩
      rw [hp]
      simp only [List.length_append, List.length_cons, List.length_nil]
      rw [if_neg (by simp)]
      simp only [List.length_cons, List.length_nil]
      omega
end Go.Proofs.YtlfbghkcfmcnlaaGreatDoor
namespace Go.Sx
open Go.RowKit

/-! ### One cell as the result, behind a range over a function -/
section
variable {C : Cx} {L : Regs} {O S : List Fact}
theorem ej_retMc0 {fn : Func} {R : Ending → World → Prop} {p : Tmp} {t : TypeId} {a : Addr} {v : Value} (hD : C.D = []) (h : fn.results = #[.cell p t]) (hx : val L (.tmp p) = some (.pointer (some a))) (hy : Yi C ⟨none, .load t (.tmp p), 0, "", #[], none⟩ L O S v)
    (hR : ∀ w, Hp C.F C.w0 O S w → R (.returned v) w) : EJ C (bodyPostM (FR none) 0 C.P fn R) .ret L O S := fun ac w hr hp => by
  show LeavesInM _ _ _ _ _ _ _ _ _
  rw [hr.defers, hD]
  refine ⟨_, ?_, hR w hp⟩
  have h0 := getQ_of_look hr hx
  simp [results, h, h0, asAddr, yi_loadVar hx hy hr hp]
theorem ej_retMc1 {fn : Func} {R : Ending → World → Prop} {p : Tmp} {t : TypeId} {a : Addr} {v : Value} {Db : Nat} {O' : List Fact} (hD : C.D = [⟨.collected Db, #[]⟩]) (h : fn.results = #[.cell p t]) [hup : UpdB O Db (.deferred (some [])) (.deferred none) O'] (hx : val L (.tmp p) = some (.pointer (some a))) (hy : Yi C ⟨none, .load t (.tmp p), 0, "", #[], none⟩ L O' S v)
    (hR : ∀ w, Hp C.F C.w0 O' S w → R (.returned v) w) : EJ C (bodyPostM (FR none) 0 C.P fn R) .ret L O S := fun ac w hr hp => by
  show LeavesInM _ _ _ _ _ _ _ _ _
  rw [hr.defers, hD]
  refine ⟨by simp, .inl ⟨Db, _, rfl, run_takeDeferred (hp.at hup.rep.mem), ?_⟩⟩
  refine ⟨_, ?_, hR _ (hp.put hup.rep)⟩
  have h0 := getQ_of_look hr hx
  simp [results, h, h0, asAddr, yi_loadVar hx hy hr (hp.put hup.rep)]
end

/-! ### Several things of the caller's -/
structure MutL (Os : List Fact) (w w' : World) : Prop where
  os : w'.os = w.os
  tape : w'.tape = w.tape
  output : w'.output = w.output
  size : w.heap.size ≤ w'.heap.size
  same : ∀ b, b < w.heap.size → (∀ f ∈ Os, ¬ f.fp b) → w'.heap[b]? = w.heap[b]?
/-- The facts 'Ps' stand for 'Os' now. -/
structure Giv (Os : List Fact) (w w' : World) (Ps : List Fact) : Prop where
  mu : MutL Os w w'
  has : ∀ f ∈ Ps, f.P w' ∧ ∀ b, f.fp b → b < w'.heap.size ∧ ((∃ g ∈ Os, g.fp b) ∨ w.heap.size ≤ b)
  apart : Ps.Pairwise (fun f g => ∀ b, f.fp b → ¬ g.fp b)
/-- What a function may not touch: all that was there but what it got. -/
def FrO (w : World) (Os : List Fact) : Nat → Prop := fun i => i < w.heap.size ∧ ∀ f ∈ Os, ¬ f.fp i
theorem enterO {P : Program} {f : FuncId} {fn : Func} {c : Code} {args : List Value} {w : World} {R : Ending → World → Prop} (Os S : List Fact)
    (hf : P.funcs[f]? = some fn) (hb : fn.body = some c) (hn : args.length ≤ fn.ntmps) (hO : ∀ f ∈ Os, f.P w ∧ ∀ b, f.fp b → b < w.heap.size) (hap : Os.Pairwise (fun f g => ∀ b, f.fp b → ¬ g.fp b))
    (hS : ∀ g ∈ S, g.P w ∧ ∀ i, g.fp i → i < w.heap.size ∧ ∀ f ∈ Os, ¬ f.fp i)
    (h : CJ ⟨P, none, FrO w Os, w, fn.ntmps, []⟩ c (bodyPost P fn R) (regsOf 0 args) Os S) : Calls P f args.toArray w R :=
  enter (FrO w Os) Os S hf hb hn ⟨rfl, rfl, rfl, Nat.le_refl _, fun _ hi => ⟨hi.1, rfl⟩, fun g hg => ⟨(hO g hg).1, fun b hb => ⟨(hO g hg).2 b hb, fun h => h.2 g hg hb⟩⟩, hap, fun g hg => ⟨(hS g hg).1, fun i hi => ((hS g hg).2 i hi).1, fun o ho i hi hio => ((hS g hg).2 i hi).2 o ho hio⟩⟩ h
theorem Hp.giv {w0 w : World} {Os O S : List Fact} (hp : Hp (FrO w0 Os) w0 O S w) (Ps : List Fact) [h : SubO Ps O] : Giv Os w0 w Ps :=
  ⟨⟨hp.os, hp.tape, hp.output, hp.size, fun b hb hn => (hp.fr b ⟨hb, hn⟩).2⟩, fun f hf => ⟨(hp.own f (h.sub.subset hf)).1, fun b hb => ⟨((hp.own f (h.sub.subset hf)).2 b hb).1, by
    have h1 := ((hp.own f (h.sub.subset hf)).2 b hb).2
    by_cases hlt : b < w0.heap.size
    · left
      refine Classical.byContradiction fun hno => h1 ⟨hlt, fun g hg hgb => hno ⟨g, hg, hgb⟩⟩
    · exact .inr (by omega)⟩⟩, hp.apart.sublist h.sub⟩
theorem Hp.takeGiv {F : Nat → Prop} {w0 w w' : World} {O Os R S Ps : List Fact} (hp : Hp F w0 O S w) (hperm : O.Perm (Os ++ R)) (hg : Giv Os w w' Ps) : Hp F w0 (Ps ++ R) S w' := by
  have h1 := hp.permO hperm
  obtain ⟨hm, hh, hpa⟩ := hg
  have hapx := List.pairwise_append.1 h1.apart
  have hR : ∀ f ∈ R, ∀ b, f.fp b → b < w.heap.size ∧ ∀ g ∈ Os, ¬ g.fp b := fun f hf b hb => ⟨((h1.own f (List.mem_append_right _ hf)).2 b hb).1, fun g hg hgb => hapx.2.2 g hg f hf b hgb hb⟩
  refine ⟨hm.os.trans hp.os, hm.tape.trans hp.tape, hm.output.trans hp.output, Nat.le_trans hp.size hm.size, fun b hb => ?_, fun f hf => ?_, ?_, fun f hf => ?_⟩
  · exact ⟨(h1.fr b hb).1, (hm.same b (Nat.lt_of_lt_of_le (h1.fr b hb).1 h1.size) (fun f hf hfb => ((h1.own f (List.mem_append_left _ hf)).2 b hfb).2 hb)).trans (h1.fr b hb).2⟩
  · rcases List.mem_append.1 hf with hf | hf
    · refine ⟨(hh f hf).1, fun b hb => ⟨((hh f hf).2 b hb).1, fun hF => ?_⟩⟩
      rcases ((hh f hf).2 b hb).2 with ⟨g, hg, hgb⟩ | h3
      · exact ((h1.own g (List.mem_append_left _ hg)).2 b hgb).2 hF
      · have h4 := (h1.fr b hF).1; have h5 := h1.size; omega
    · have h2 := h1.own f (List.mem_append_right _ hf)
      exact ⟨f.stab (fun b hb => hm.same b (h2.2 b hb).1 (hR f hf b hb).2) h2.1, fun b hb => ⟨Nat.lt_of_lt_of_le (h2.2 b hb).1 hm.size, (h2.2 b hb).2⟩⟩
  · refine List.pairwise_append.2 ⟨hpa, hapx.2.1, fun f hf g hg b hb hgb => ?_⟩
    rcases ((hh f hf).2 b hb).2 with ⟨o, ho, hob⟩ | h3
    · exact (hR g hg b hgb).2 o ho hob
    · have := (hR g hg b hgb).1; omega
  · have h2 := h1.shared f hf
    refine ⟨f.stab (fun b hb => hm.same b (h2.2.1 b hb) (fun g hg hgb => h2.2.2 g (List.mem_append_left _ hg) b hb hgb)) h2.1, fun b hb => Nat.lt_of_lt_of_le (h2.2.1 b hb) hm.size, fun o ho b hb hob => ?_⟩
    rcases List.mem_append.1 ho with ho | ho
    · rcases ((hh o ho).2 b hob).2 with ⟨g, hg, hgb⟩ | h3
      · exact h2.2.2 g (List.mem_append_left _ hg) b hb hgb
      · have := h2.2.1 b hb; omega
    · exact h2.2.2 o (List.mem_append_right _ ho) b hb hob
/-- Facts taken out of a list, one by one. -/
class Take1 (O : List Fact) (f : Fact) (R : outParam (List Fact)) : Prop where
  perm : O.Perm (f :: R)
instance (priority := 1000) Take1.head (f : Fact) (O : List Fact) : Take1 (f :: O) f O := ⟨.refl _⟩
instance (priority := 900) Take1.tail (g f : Fact) (O R : List Fact) [h : Take1 O f R] : Take1 (g :: O) f (g :: R) := ⟨(h.perm.cons g).trans (.swap _ _ _)⟩
class Takes (O Os : List Fact) (R : outParam (List Fact)) : Prop where
  perm : O.Perm (Os ++ R)
instance Takes.nil (O : List Fact) : Takes O [] O := ⟨.refl _⟩
instance Takes.cons (O O1 Os R : List Fact) (f : Fact) [h : Take1 O f O1] [k : Takes O1 Os R] : Takes O (f :: Os) R := ⟨h.perm.trans (k.perm.cons f)⟩
theorem Hp.givT {w0 w : World} {Os O S R : List Fact} (hp : Hp (FrO w0 Os) w0 O S w) (Ps : List Fact) [h : Takes O Ps R] : Giv Os w0 w Ps :=
  haveI : SubO Ps (Ps ++ R) := ⟨List.sublist_append_left ..⟩
  (hp.permO h.perm).giv Ps
/-- The same of what is owned besides. -/
theorem Hp.ownR {F : Nat → Prop} {w0 w : World} {O S Os R : List Fact} (hp : Hp F w0 O S w) (h : Takes O Os R) : ∀ g ∈ R, g.P w ∧ ∀ i, g.fp i → i < w.heap.size ∧ ∀ f ∈ Os, ¬ f.fp i := by
  have h1 := hp.permO h.perm
  exact fun g hg => ⟨(h1.own g (List.mem_append_right _ hg)).1, fun i hi => ⟨((h1.own g (List.mem_append_right _ hg)).2 i hi).1, fun f hf hfi => (List.pairwise_append.1 h1.apart).2.2 f hf g hg i hfi hi⟩⟩
theorem ej_takes {C : Cx} {Q : Exit → Act → World → Prop} {e : Exit} {L : Regs} {O R S : List Fact} (O' : List Fact) [h : Takes O O' R] (k : EJ C Q e L O' S) : EJ C Q e L O S :=
  fun a w hr hp => k a w hr ((hp.permO h.perm).sub (List.sublist_append_left ..) (fun _ h => h))
theorem cj_takes {C : Cx} {cd : Code} {Q : Exit → Act → World → Prop} {L : Regs} {O R S : List Fact} (O' : List Fact) [h : Takes O O' R] (k : CJ C cd Q L O' S) : CJ C cd Q L O S :=
  fun a w hr hp => k a w hr ((hp.permO h.perm).sub (List.sublist_append_left ..) (fun _ h => h))
theorem pl_w3 {C : Cx} {l : List Oper} {Q : Exit → Act → World → Prop} {n : Nat} {his : List Nat} {pend : List Pend} {L : Regs} {O S : List Fact} (i j k : Nat) (ho : openAt l his = [i, j, k]) (h0 : Nat.blt i l.length = true) (hn : his.contains i = false) (h : Fires C l Q n his pend L O S i) (h' : Fires C l Q n his pend L O S j) (h'' : Fires C l Q n his pend L O S k) : Plan C l Q (n + 1) his pend L O S :=
  pl_w [i, j, k] i ho h0 hn (fun x hx => by
    simp only [List.mem_cons, List.mem_nil_iff, or_false] at hx
    rcases hx with rfl | rfl | rfl
    · exact h
    · exact h'
    · exact h'')
theorem ej_retCC {C : Cx} {L : Regs} {O S : List Fact} {fn : Func} {R : Ending → World → Prop} {p q : Tmp} {t u : TypeId} {a b : Addr} {v x : Value} (hD : C.D = []) (h : fn.results = #[.cell p t, .cell q u]) (hx : val L (.tmp p) = some (.pointer (some a))) (hy : Yi C ⟨none, .load t (.tmp p), 0, "", #[], none⟩ L O S v)
    (hx2 : val L (.tmp q) = some (.pointer (some b))) (hy2 : Yi C ⟨none, .load u (.tmp q), 0, "", #[], none⟩ L O S x) (hR : ∀ w, Hp C.F C.w0 O S w → R (.returned (.tuple #[v, x])) w) :
    EJ C (bodyPost C.P fn R) .ret L O S := fun ac w hr hp => ⟨hr.defers.trans hD, _, by
      have h0 := getQ_of_look hr hx
      have h1 := getQ_of_look hr hx2
      simp [results, h, h0, h1, asAddr, yi_loadVar hx hy hr hp, yi_loadVar hx2 hy2 hr hp], hR w hp⟩
theorem ow_none {α : Type} {e : TypeId} {sz c : Nat} {enc : α → List Value} {xs : List α} {w : World} (h : (ow e sz enc none c xs).P w) : xs = [] ∧ c = 0 := by
  have h : w.ownsRow 0 e sz (.slice none xs.length c) xs.length (xs.flatMap enc) := h
  rcases h.2 with ⟨h1, h2⟩ | ⟨g, cap, cur, hv, _⟩
  · injection h1 with _ _ h1
    exact ⟨List.eq_nil_of_length_eq_zero h2, h1⟩
  · injection hv with hv; cases hv
theorem Hp.ownT {F : Nat → Prop} {w0 w : World} {O S : List Fact} (hp : Hp F w0 O S w) {f : Fact} {R : List Fact} (h : Take1 O f R) : f.P w ∧ ∀ b, f.fp b → b < w.heap.size := by
  have := hp.own f (h.perm.mem_iff.2 (List.mem_cons_self ..))
  exact ⟨this.1, fun b hb => (this.2 b hb).1⟩
theorem Hp.ownL {F : Nat → Prop} {w0 w : World} {O S Os R : List Fact} (hp : Hp F w0 O S w) (h : Takes O Os R) : (∀ f ∈ Os, f.P w ∧ ∀ b, f.fp b → b < w.heap.size) ∧ Os.Pairwise (fun f g => ∀ b, f.fp b → ¬ g.fp b) ∧ ∀ g ∈ S, g.P w ∧ ∀ i, g.fp i → i < w.heap.size ∧ ∀ f ∈ Os, ¬ f.fp i := by
  have h1 := hp.permO h.perm
  refine ⟨fun f hf => ⟨(h1.own f (List.mem_append_left _ hf)).1, fun b hb => ((h1.own f (List.mem_append_left _ hf)).2 b hb).1⟩, (List.pairwise_append.1 h1.apart).1, fun g hg => ⟨(h1.shared g hg).1, fun i hi => ⟨(h1.shared g hg).2.1 i hi, fun f hf => (h1.shared g hg).2.2 f (List.mem_append_left _ hf) i hi⟩⟩⟩
section
variable {C : Cx} {Q : Exit → Act → World → Prop} {L : Regs} {O S : List Fact} {ops : Array Oper} {rest : List Oper} {ty : TypeId} {pos : String} {aft : Array Edge} {d : Nat}
/-- A call (of a function, or a function value) that turns several things. -/
theorem oj_callL {X : Type} {x : Operand} {xs : List Operand} {vs : List Value} {ats : Array TypeId} {f : FuncId} {fi ca : Array Value} (enc : X → Value) (Os : List Fact) (Ps : X → List Fact) {R : List Fact} [ht : Takes O Os R]
    (hf : ∀ args w, (callFunc f args).run C.P w = .ok (.enter f args) w) (hx : val L x = some (.func (.func f) fi ca)) (hv : valsO L xs = some vs)
    (hc : ∀ w, Hp C.F C.w0 O S w → Calls C.P f (fi ++ vs.toArray ++ ca) w (fun e w' => ∃ z, e = .returned (enc z) ∧ Giv Os w w' (Ps z))) (hdN : Nat.blt d C.N = true)
    (k : ∀ z, OJ C ops Q rest ((d, enc z) :: L) (Ps z ++ R) S) : OJ C ops Q (⟨some d, .call ⟨.value x, xs.toArray, ats⟩, ty, pos, aft, none⟩ :: rest) L O S := by
  intro a w hr hp
  have hdN' : d < C.N := by simpa [Nat.blt_eq] using hdN
  unfold wpListIn
  rw [if_pos (by simp [Region.wanted])]
  refine ⟨fun _ _ => trivial, ?_⟩
  rw [Oper.semAt_eq _ _ _ (by intro c h; cases h), run_callV hr hf hx hv]
  refine ⟨fun h => (by cases h), callsIn_FR.2 ((hc w hp).mono fun e w' hx => ?_)⟩
  obtain ⟨z, rfl, hg⟩ := hx
  exact k z _ w' (hr.put hdN' _) (hp.takeGiv ht.perm hg)
end

theorem ej_eqX {C : Cx} {Q : Exit → Act → World → Prop} {e : Exit} {L : Regs} {O S : List Fact} (O' : List Fact) (h : O' = O) (k : EJ C Q e L O' S) : EJ C Q e L O S := h ▸ k
/-! ### A slice that grows, and the one that it was -/
theorem ow_cut {α : Type} {e : TypeId} {sz c : Nat} {enc : α → List Value} {A : Option Addr} {xs ys : List α} {w : World} (he : ∀ x, (enc x).length = sz) (hA : A = none → xs = [] ∧ c = 0) (h : (ow e sz enc A c (xs ++ ys)).P w) : (ow e sz enc A c xs).P w := by
  have h : w.ownsRow 0 e sz (.slice A (xs ++ ys).length c) (xs ++ ys).length ((xs ++ ys).flatMap enc) := h
  show w.ownsRow 0 e sz (.slice A xs.length c) xs.length (xs.flatMap enc)
  refine ⟨by rw [flatMap_len enc sz he], ?_⟩
  rcases h.2 with ⟨h1, h2⟩ | ⟨g, cap, cur, hv, h3, h4, h5, h6, h7, h8⟩
  · injection h1 with h1 h1' h1''
    obtain ⟨e1, e2⟩ := hA h1
    subst e1; subst h1; subst e2; exact .inl ⟨rfl, rfl⟩
  · injection hv with hv hv' hv''
    subst hv; subst hv''
    refine .inr ⟨g, c, cur, rfl, h3, h4, ?_, h6, h7, ?_⟩
    · rw [List.length_append] at h5; omega
    · have e1 : (xs.flatMap enc).length ≤ ((xs ++ ys).flatMap enc).length := by rw [List.flatMap_append, List.length_append]; omega
      have e2 : (cur.toList.take ((xs ++ ys).flatMap enc).length).take (xs.flatMap enc).length = xs.flatMap enc := by rw [flatMap_len enc sz he (xs ++ ys), h8, List.flatMap_append, List.take_left]
      rw [List.take_take, Nat.min_eq_left e1, flatMap_len enc sz he xs] at e2
      exact e2
section
variable {C : Cx} {Q : Exit → Act → World → Prop} {L : Regs} {O S : List Fact} {ops : Array Oper} {rest : List Oper} {ty : TypeId} {pos : String} {aft : Array Edge} {d : Nat}
/-- append of one element that lies in a block of its own, to a slice of one's own: there was room, or there is a new block and the old one is as it was. -/
theorem oj_appendK {α : Type} {t e : TypeId} {sz bytes c c2 b2 : Nat} {s x : Operand} {enc : α → List Value} {A : Option Addr} {xs : List α} {y : α} {O' : List Fact} (hE : ElemIs C.P t e sz bytes) (he : ∀ x, (enc x).length = sz) (hone : ∀ x, ∀ v ∈ enc x, v.oneCell' = true)
    (hs : val L s = some (.slice A xs.length c)) (hx : val L x = some (.slice (some ⟨b2, 0, none⟩) 1 c2)) (hrd : Reads C O S sz enc (some ⟨b2, 0, none⟩) [y])
    (hlen : xs.length + 1 ≤ maxLen) (hby : (xs.length + 1) * bytes ≤ 140737488355328) (hdN : Nat.blt d C.N = true)
    [hu : UpdOw O A e sz enc c xs (ow e sz enc A c (xs ++ [y])) O']
    (k1 : xs.length + 1 ≤ c → OJ C ops Q rest ((d, .slice A (xs ++ [y]).length c) :: L) O' S)
    (k2 : ∀ A' c', OJ C ops Q rest ((d, .slice A' (xs ++ [y]).length c') :: L) (ow e sz enc A' c' (xs ++ [y]) :: O) S) : OJ C ops Q (⟨some d, .call ⟨.builtin .append, #[s, x], #[t, t]⟩, ty, pos, aft, none⟩ :: rest) L O S := by
  intro a w hr hp
  have hdN' : d < C.N := by simpa [Nat.blt_eq] using hdN
  unfold wpListIn
  rw [if_pos (by simp [Region.wanted])]
  refine ⟨fun _ _ => trivial, ?_⟩
  rw [Oper.semAt_eq _ _ _ (by intro c h; cases h)]
  obtain ⟨i, z, hut, hi, hz, hsz, hbt, hzs, hpos⟩ := hE.ex
  have hown : w.ownsRow 0 e sz (.slice A xs.length c) xs.length (xs.flatMap enc) := (hp.own _ hu.rep.mem).1
  obtain ⟨ad, had, hc⟩ := hrd w hp (by simp)
  injection had with had
  subst had
  have hnl : (enc y).length = 1 * sz := by rw [he, Nat.one_mul]
  have hnews : ∀ j u, (enc y)[j]? = some u → w.cell? ((⟨b2, 0, none⟩ : Addr).add j) = some u := by
    intro j u hj
    have := hc 0 y j u rfl hj
    simpa using this
  have h1 : ∀ u ∈ enc y, u.oneCell' = true := hone y
  have hfl : (xs ++ [y]).flatMap enc = xs.flatMap enc ++ enc y := by rw [List.flatMap_append]; simp
  obtain ⟨v', w', hrun, hown', hgb, _, hblk⟩ := run_append_own_at (P := C.P) w 0 t ty e i z sz bytes hut hi hz hsz hbt hzs hpos _ _ _ hown ⟨b2, 0, none⟩ 1 c2 (enc y) hnl hnews h1 hlen hby (Nat.zero_le _)
  have hrun' : (execOp a.eval ⟨some d, .call ⟨.builtin .append, #[s, x], #[t, t]⟩, ty, pos, aft, none⟩).run C.P w = .ok (.value v') w' := by
    simp [execOp, resolve, invoke, builtin, hr.val hs, hr.val hx, hrun]
  rw [hrun']
  show wpListIn _ _ _ _ _ _ _ _
  have hlt := hown'.lt
  -- a new block
  have new : w.grownBy w' none → v'.ownBlock = some w.heap.size → wpListIn (FR C.ro) 0 C.P ops Q rest (a.put (some d) v') w' := by
    intro hg hv
    have hform : ∃ A' c', v' = .slice A' (xs ++ [y]).length c' := by
      rcases hown'.2 with ⟨h2, h3⟩ | ⟨g, cap, cur, hv, _⟩
      · omega
      · exact ⟨_, _, by rw [hv, List.length_append]; rfl⟩
    obtain ⟨A', c', rfl⟩ := hform
    refine k2 A' c' _ w' (hr.put hdN' _) (hp.addO ⟨hg.os, hg.tape, hg.output, hg.size, fun b hb => hg.block b hb (by simp)⟩ _ ?_ (fun b hb => ?_))
    · show w'.ownsRow 0 e sz _ _ _
      rw [hfl, List.length_append]; rw [List.length_append] at hown'; exact hown'
    · have hb' : (Value.slice A' (xs ++ [y]).length c').ownBlock = some b := hb
      rw [hv] at hb'; injection hb' with hb'
      exact ⟨by omega, (hlt b (hv.trans (congrArg some hb'))).2⟩
  rcases hown.2 with ⟨h2, h3⟩ | ⟨g, cap, cur, hv, _, h4, h5, h6, h7, _⟩
  · injection h2 with h2 _ h2''
    subst h2
    refine new ?_ ?_
    · exact ⟨hgb.os, hgb.tape, hgb.output, hgb.size, fun b hb _ => hgb.block b hb (by simp [Value.ownBlock])⟩
    · rcases hblk with h | h
      · rcases hown'.2 with ⟨h8, h9⟩ | ⟨g, cap, cur, hv, _⟩
        · omega
        · rw [hv] at h; simp [Value.ownBlock] at h
      · exact h
  · injection hv with hv _ hv''
    subst hv; subst hv''
    by_cases hroom : xs.length + 1 ≤ c
    · have hfit : xs.length * i.size + (enc y).length ≤ cur.size := by rw [hnl, hsz, h7, ← Nat.add_mul]; exact Nat.mul_le_mul_right _ hroom
      have hr2 := run_append_room (P := C.P) w t ty e i hut hi g xs.length c cur h4 ⟨b2, 0, none⟩ 1 c2 (enc y) (by rw [hsz]; exact hnl) hnews h1 hroom hfit
      rw [hr2] at hrun
      injection hrun with hv' hw'
      subst hv'
      have := k1 hroom (a.put (some d) (.slice (some ⟨g, 0, none⟩) (xs ++ [y]).length c)) w' (hr.put hdN' _) (hp.write hu.rep hgb.os hgb.tape hgb.output hgb.size (fun b hb hnb => hgb.block b hb (fun e => hnb e.symm)) (by
        show w'.ownsRow 0 e sz _ _ _
        rw [hfl, List.length_append]; exact hown') (fun b hb => ⟨(hlt b hb).2, .inl hb⟩))
      rw [List.length_append] at this
      exact this
    · have holds : ∀ j u, (xs.flatMap enc)[j]? = some u → w.cell? ((⟨g, 0, none⟩ : Addr).add j) = some u := hown.cells (g := g) rfl
      have hr2 := run_append_grow (P := C.P) w t ty e i z hut hi hz ⟨g, 0, none⟩ xs.length c (xs.flatMap enc) (by rw [hsz]; exact hown.1) holds ⟨b2, 0, none⟩ 1 c2 (enc y) (by rw [hsz]; exact hnl) hnews (by omega) (by simp only [maxLen] at hlen; omega) (growslice_fits (by omega) (by rw [hbt]; exact hby))
      rw [hr2] at hrun
      injection hrun with hv' hw'
      refine new ?_ (by rw [← hv']; rfl)
      rw [← hw']
      exact ⟨rfl, rfl, rfl, by simp, fun b hb _ => Go.heap_alloc_old w.drew _ hb⟩
theorem ej_cutO {α : Type} {en : Exit} {e : TypeId} {sz c : Nat} {enc : α → List Value} {A : Option Addr} {xs ys : List α} {O' : List Fact} (he : ∀ x, (enc x).length = sz) (hA : A = none → xs = [] ∧ c = 0) [hu : UpdOw O A e sz enc c (xs ++ ys) (ow e sz enc A c xs) O'] (k : EJ C Q en L O' S) : EJ C Q en L O S :=
  fun a w hr hp => k a w hr (hp.write hu.rep rfl rfl rfl (Nat.le_refl _) (fun _ _ _ => rfl) (ow_cut he hA (hp.own _ hu.rep.mem).1) (fun b hb => by
    have hb' : (ow e sz enc A c (xs ++ ys)).fp b := by
      have h1 : (Value.slice A xs.length c).ownBlock = some b := hb
      show (Value.slice A (xs ++ ys).length c).ownBlock = some b
      cases A with
      | none => simp [Value.ownBlock] at h1
      | some a => exact h1
    exact ⟨((hp.own _ hu.rep.mem).2 b hb').1, .inl hb'⟩))
end

/-! ### Maps with stamps, and loops over them -/
section
variable {K V : Type} (ek : K → Value) (ev : V → Value)
def StampOk (es : List MapEntry) (c : Nat) : Prop := (∀ x ∈ es, x.born < c) ∧ (es.map (·.born)).Nodup
/-- A map of one's own, ready to be ranged over. -/
def mz (b : Nat) (l : List (K × V)) : Fact where
  fp := fun i => i = b
  P := fun w => ∃ (es : Array MapEntry) (clock : Nat), w.heap[b]? = some (.map es clock) ∧ entOk ek ev es.toList l ∧ StampOk es.toList clock
  stab := fun h ⟨es, c, h1, h2⟩ => ⟨es, c, (h b rfl).trans h1, h2⟩
/-- A map under a loop: what is still to come, and the entry at hand. -/
def mit (b r : Nat) (left : List (K × V)) (cur : Option (K × V)) : Fact where
  fp := fun i => i = b ∨ i = r
  P := fun w => b ≠ r ∧ ∃ (es : Array MapEntry) (clock since : Nat) (seen : Array Nat) (c0 : Nat), w.heap[b]? = some (.map es clock) ∧ w.heap[r]? = some (.mapIter (some b) since seen c0) ∧ (es.toList.map (fun x : MapEntry => x.born)).Nodup ∧ (∀ x ∈ es.toList, x.born < since) ∧ since ≤ c0 ∧ since ≤ clock ∧
    entOk ek ev (leftOf es seen).toList left ∧ ∀ p, cur = some p → c0 = clock ∧ ∃ e ∈ es.toList, (∃ s : Array Nat, seen = s.push e.born) ∧ e.key = ek p.1 ∧ e.val = ev p.2
  stab := fun h ⟨hne, es, c, si, se, c0, h1, h2, h3⟩ => ⟨hne, es, c, si, se, c0, (h b (.inl rfl)).trans h1, (h r (.inr rfl)).trans h2, h3⟩
end
section
variable {K V : Type} {C : Cx} {Q : Exit → Act → World → Prop} {L : Regs} {O S : List Fact} {ops : Array Oper} {rest : List Oper} {ty : TypeId} {pos : String} {aft : Array Edge} {d : Nat} {t : TypeId}
theorem oj_makeMapZ (ek : K → Value) (ev : V → Value) (hdN : Nat.blt d C.N = true) (k : ∀ b, OJ C ops Q rest ((d, .map (some b)) :: L) (mz ek ev b [] :: O) S) : OJ C ops Q (⟨some d, .makeMap t none, ty, pos, aft, none⟩ :: rest) L O S := by
  intro a w hr hp
  have hdN' : d < C.N := by simpa [Nat.blt_eq] using hdN
  unfold wpListIn
  rw [if_pos (by simp [Region.wanted])]
  refine ⟨fun _ _ => trivial, ?_⟩
  rw [Oper.semAt_eq _ _ _ (by intro c h; cases h)]
  have hrun : (execOp a.eval ⟨some d, .makeMap t none, ty, pos, aft, none⟩).run C.P w = .ok (.value (.map (some w.heap.size))) (w.alloc (.map #[] 0)) := by
    simp [execOp, Instr.makeMap]
  rw [hrun]
  show wpListIn _ _ _ _ _ _ _ _
  refine k w.heap.size _ _ (hr.put hdN' _) ?_
  refine hp.addO ((Below.refl _ _).alloc (Nat.le_refl _) _) _ ⟨#[], 0, heap_alloc_new w _, rfl, by simp [StampOk]⟩ (fun b hb => ?_)
  have hb' : b = w.heap.size := hb
  subst hb'
  simp
end
section
variable {K V : Type} {ek : K → Value} {ev : V → Value} {C : Cx} {Q : Exit → Act → World → Prop} {L : Regs} {O S : List Fact} {ops : Array Oper} {rest : List Oper} {ty : TypeId} {pos : String} {aft : Array Edge} {d : Nat} {dst : Option Tmp} {gu : Option (Nat × Bool)} {t kt et : TypeId} {x y z : Operand} {b : Nat} {l : List (K × V)}
class HasMz (O : List Fact) (b : Nat) (ek : outParam (K → Value)) (ev : outParam (V → Value)) (l : outParam (List (K × V))) : Prop where
  mem : mz ek ev b l ∈ O
instance (priority := 900) HasMz.tail (f : Fact) (O : List Fact) (b : Nat) (ek : K → Value) (ev : V → Value) (l : List (K × V)) [h : HasMz O b ek ev l] : HasMz (f :: O) b ek ev l := ⟨List.mem_cons_of_mem _ h.mem⟩
instance (priority := 1000) HasMz.head (O : List Fact) (b : Nat) (ek : K → Value) (ev : V → Value) (l : List (K × V)) : HasMz (mz ek ev b l :: O) b ek ev l := ⟨List.mem_cons_self ..⟩
class UpdMz (O : List Fact) (b : Nat) (ek : outParam (K → Value)) (ev : outParam (V → Value)) (l : outParam (List (K × V))) (f' : Fact) (O' : outParam (List Fact)) : Prop where
  rep : Rep O (mz ek ev b l) f' O'
instance (priority := 900) UpdMz.tail (f : Fact) (O O' : List Fact) (b : Nat) (ek : K → Value) (ev : V → Value) (l : List (K × V)) (f' : Fact) [h : UpdMz O b ek ev l f' O'] : UpdMz (f :: O) b ek ev l f' (f :: O') := ⟨.tail _ _ _ _ _ h.rep⟩
instance (priority := 1000) UpdMz.head (O : List Fact) (b : Nat) (ek : K → Value) (ev : V → Value) (l : List (K × V)) (f' : Fact) : UpdMz (mz ek ev b l :: O) b ek ev l f' (f' :: O) := ⟨.head _ _ _⟩
theorem y_lookupZ [DecidableEq K] {kd : TypeDesc} {kk : K} (d0 : V) [hk : KeyE ek kd] [h : HasMz O b ek ev l] (ht : C.P.underlying t = some (.map kt et)) (hkt : C.P.underlying kt = some kd) (hz : ∀ w, (zeroValue et).run C.P w = .ok (ev d0) w)
    (hx : val L x = some (.map (some b))) (hy : val L y = some (ek kk)) : Yi C ⟨dst, .lookup t x y true, ty, pos, aft, gu⟩ L O S (.tuple #[ev ((getL l kk).getD d0), .bool (getL l kk).isSome]) :=
  yi_val (by intro c h; cases h) fun a w hr hp => by
    obtain ⟨es, clock, hb, he, _⟩ := (hp.own _ h.mem).1
    have hf := findNow_eq (ek := ek) (ev := ev) es.toList l kk 0 he
    have hg := findL_get l kk 0
    simp only [execOp, hr.val hx, hr.val hy, Instr.lookup, Sem.run_bind, run_underlying ht, Result.andThen_ok, run_getObj hb, Sem.run_pure, hk.check C.P kt _ w kk hkt, Instr.findKey, run_underlying hkt, hf]
    cases hfl : findL l kk 0 with
    | none => rw [hfl] at hg; simp only [Option.map_none] at hg; simp [← hg, hz]
    | some p => rw [hfl] at hg; simp only [Option.map_some] at hg; simp [← hg]
theorem y_lookupZ1 [DecidableEq K] {kd : TypeDesc} {kk : K} (d0 : V) [hk : KeyE ek kd] [h : HasMz O b ek ev l] (ht : C.P.underlying t = some (.map kt et)) (hkt : C.P.underlying kt = some kd) (hz : ∀ w, (zeroValue et).run C.P w = .ok (ev d0) w)
    (hx : val L x = some (.map (some b))) (hy : val L y = some (ek kk)) : Yi C ⟨dst, .lookup t x y false, ty, pos, aft, gu⟩ L O S (ev ((getL l kk).getD d0)) :=
  yi_val (by intro c h; cases h) fun a w hr hp => by
    obtain ⟨es, clock, hb, he, _⟩ := (hp.own _ h.mem).1
    have hf := findNow_eq (ek := ek) (ev := ev) es.toList l kk 0 he
    have hg := findL_get l kk 0
    simp only [execOp, hr.val hx, hr.val hy, Instr.lookup, Sem.run_bind, run_underlying ht, Result.andThen_ok, run_getObj hb, Sem.run_pure, hk.check C.P kt _ w kk hkt, Instr.findKey, run_underlying hkt, hf]
    cases hfl : findL l kk 0 with
    | none => rw [hfl] at hg; simp only [Option.map_none] at hg; simp [← hg, hz]
    | some p => rw [hfl] at hg; simp only [Option.map_some] at hg; simp [← hg]
theorem oj_mapUpdateZ [DecidableEq K] {kd : TypeDesc} {kk : K} {v : V} {O' : List Fact} [hk : KeyE ek kd] [hu : UpdMz O b ek ev l (mz ek ev b (putL l kk v)) O'] (ht : C.P.underlying t = some (.map kt et)) (hkt : C.P.underlying kt = some kd)
    (hx : val L x = some (.map (some b))) (hy : val L y = some (ek kk)) (hz : val L z = some (ev v)) (k : OJ C ops Q rest L O' S) : OJ C ops Q (⟨none, .mapUpdate t x y z, ty, pos, aft, none⟩ :: rest) L O S := by
  intro a w hr hp
  unfold wpListIn
  rw [if_pos (by simp [Region.wanted])]
  refine ⟨fun _ _ => trivial, ?_⟩
  rw [Oper.semAt_eq _ _ _ (by intro c h; cases h)]
  have hown := hp.own _ hu.rep.mem
  obtain ⟨es, clock, hb, he, hs1, hs2⟩ := hown.1
  have hlt : b < w.heap.size := (hown.2 b rfl).1
  have hf := findNow_eq (ek := ek) (ev := ev) es.toList l kk 0 he
  have key : ∃ es' clock', (execOp a.eval ⟨none, .mapUpdate t x y z, ty, pos, aft, none⟩).run C.P w = .ok .skip { w with heap := w.heap.setIfInBounds b (.map es' clock') } ∧ entOk ek ev es'.toList (putL l kk v) ∧ StampOk es'.toList clock' := by
    cases hfl : findL l kk 0 with
    | none =>
      rw [hfl] at hf
      refine ⟨es.push ⟨ek kk, ev v, clock⟩, clock + 1, ?_, ?_, ?_⟩
      · simp only [execOp, hr.val hx, hr.val hy, hr.val hz, Instr.mapUpdate, Sem.run_bind, run_underlying ht, Result.andThen_ok, run_getObj hb, hk.check C.P kt _ w kk hkt, Instr.findKey, run_underlying hkt, hf, Option.map_none, Sem.run_pure, MapKept.run_setObj_map _ hb]
      · unfold entOk at he ⊢
        rw [findL_none l kk 0 hfl, Array.toList_push, List.map_append, he, List.map_append]; rfl
      · rw [Array.toList_push]
        refine ⟨fun e he => ?_, ?_⟩
        · rcases List.mem_append.1 he with h | h
          · have := hs1 e h; omega
          · simp at h; rw [h]; simp
        · rw [List.map_append]
          refine List.nodup_append.2 ⟨hs2, by simp, fun p hp q hq => ?_⟩
          obtain ⟨e, he, rfl⟩ := List.mem_map.1 hp
          have := hs1 e he
          simp at hq
          omega
    | some p =>
      obtain ⟨i, u⟩ := p
      rw [hfl] at hf
      obtain ⟨h1, h2⟩ := ent_put (v := v) he hfl
      have hborn : (es.modify i fun e => { e with key := ek kk, val := ev v }).toList.map (·.born) = es.toList.map (·.born) := by
        rw [Array.toList_modify]
        apply List.ext_getElem?
        intro j
        rw [List.getElem?_map, List.getElem?_map, List.getElem?_modify]
        cases es.toList[j]? with
        | none => rfl
        | some e => simp; split <;> rfl
      refine ⟨_, clock, ?_, h2, ?_⟩
      · simp only [execOp, hr.val hx, hr.val hy, hr.val hz, Instr.mapUpdate, Sem.run_bind, run_underlying ht, Result.andThen_ok, run_getObj hb, hk.check C.P kt _ w kk hkt, Instr.findKey, run_underlying hkt, hf, Option.map_some, Sem.run_pure, h1, Instr.keyThatStays, hk.bits, if_true, MapKept.run_setObj_map _ hb]
      · refine ⟨fun e he => ?_, by rw [hborn]; exact hs2⟩
        have : e.born ∈ es.toList.map (·.born) := by rw [← hborn]; exact List.mem_map.2 ⟨e, he, rfl⟩
        obtain ⟨e', he', h⟩ := List.mem_map.1 this
        rw [← h]; exact hs1 e' he'
  obtain ⟨es', clock', hrun, he', hst⟩ := key
  rw [hrun]
  show wpListIn _ _ _ _ _ _ _ _
  refine k _ _ hr ?_
  refine hp.write hu.rep rfl rfl rfl (by simp) (fun c _ hc => ?_) ⟨es', clock', ?_, he', hst⟩ (fun i hi => ?_)
  · have hne : b ≠ c := fun e => hc e.symm
    simp [hne]
  · simp [hlt]
  · have hi' : i = b := hi
    subst hi'
    exact ⟨by simpa using hlt, .inl rfl⟩
/-- 'range m' -/
theorem oj_rangeZ (ht : C.P.underlying t = some (.map kt et)) (hx : val L x = some (.map (some b))) (hdN : Nat.blt d C.N = true) (k : ∀ r, OJ C ops Q rest ((d, .pointer (some ⟨r, 0, none⟩)) :: L) (mit ek ev b r l none :: O) S) :
    OJ C ops Q (⟨some d, .range t x, ty, pos, aft, none⟩ :: rest) L (mz ek ev b l :: O) S := by
  intro a w hr hp
  have hdN' : d < C.N := by simpa [Nat.blt_eq] using hdN
  unfold wpListIn
  rw [if_pos (by simp [Region.wanted])]
  refine ⟨fun _ _ => trivial, ?_⟩
  rw [Oper.semAt_eq _ _ _ (by intro c h; cases h)]
  have hown := hp.own _ (List.mem_cons_self ..)
  obtain ⟨es, clock, hb, he, hs1, hs2⟩ := hown.1
  have hlt : b < w.heap.size := (hown.2 b rfl).1
  have hrun := run_range_map w t kt et b es clock ht hb
  have hrun' : (execOp a.eval ⟨some d, .range t x, ty, pos, aft, none⟩).run C.P w = .ok (.value (.pointer (some ⟨w.heap.size, 0, none⟩))) (w.alloc (.mapIter (some b) clock #[] clock)) := by
    simp only [execOp, hr.val hx, Sem.run_bind, hrun, Result.andThen_ok, Sem.run_pure]
  rw [hrun']
  show wpListIn _ _ _ _ _ _ _ _
  refine k w.heap.size _ _ (hr.put hdN' _) ?_
  have hg : Grow w (w.alloc (.mapIter (some b) clock #[] clock)) := (Below.refl _ _).alloc (Nat.le_refl _) _
  refine hp.write (.head _ _ _) hg.os hg.tape hg.output hg.size (fun c hc _ => hg.block c hc) ⟨by omega, es, clock, clock, #[], clock, (hg.block b hlt).trans hb, heap_alloc_new w _, hs2, hs1, Nat.le_refl _, Nat.le_refl _, ?_, fun p h => (by cases h)⟩ (fun i hi => ?_)
  · have : leftOf es #[] = es := by unfold leftOf; simp
    rw [this]; exact he
  · rcases hi with hi | hi
    · subst hi; exact ⟨Nat.lt_of_lt_of_le hlt hg.size, .inl rfl⟩
    · subst hi; exact ⟨by simp, .inr (Nat.le_refl _)⟩
/-- What the loop's step hands over: nothing, or the i-th of what is still to come. -/
def nxV (ek : K → Value) (ev : V → Value) : Option (Nat × (K × V)) → Value
  | none => .tuple #[.bool false]
  | some p => .tuple #[.bool true, ek p.2.1, ev p.2.2]
def nxL (left : List (K × V)) : Option (Nat × (K × V)) → List (K × V)
  | none => left
  | some p => left.eraseIdx p.1
def nxOk (left : List (K × V)) : Option (Nat × (K × V)) → Prop
  | none => left = []
  | some p => left[p.1]? = some p.2
def nxC (cur : Option (K × V)) : Option (Nat × (K × V)) → Option (K × V)
  | none => cur
  | some p => some p.2
theorem left_push {es : Array MapEntry} {seen : Array Nat} {e : MapEntry} {i : Nat} (hn : (es.toList.map (·.born)).Nodup) (hi : (leftOf es seen).toList[i]? = some e) : (leftOf es (seen.push e.born)).toList = (leftOf es seen).toList.eraseIdx i := by
  unfold leftOf at *
  rw [Array.toList_filter] at hi ⊢
  rw [Array.toList_filter]
  generalize es.toList = l at *
  induction l generalizing i with
  | nil => simp at hi
  | cons x l ih =>
    rw [List.map_cons, List.nodup_cons] at hn
    rw [List.filter_cons, List.filter_cons (p := fun e : MapEntry => !seen.contains e.born)]
    rw [List.filter_cons] at hi
    by_cases hx : seen.contains x.born = true
    · have hx2 : (seen.push e.born).contains x.born = true := by
        rw [Array.contains_iff_mem] at hx ⊢; exact Array.mem_push.2 (.inl hx)
      rw [hx] at hi ⊢
      rw [hx2]
      exact ih hn.2 hi
    · have hx' : seen.contains x.born = false := by simpa using hx
      rw [hx'] at hi ⊢
      simp only [Bool.not_false, if_true] at hi ⊢
      cases i with
      | zero =>
        simp at hi
        subst hi
        have hx2 : (seen.push x.born).contains x.born = true := by rw [Array.contains_iff_mem]; exact Array.mem_push.2 (.inr rfl)
        rw [hx2]
        simp only [Bool.not_true, Bool.false_eq_true, if_false, List.eraseIdx_cons_zero]
        refine List.filter_congr fun y hy => ?_
        have hne : y.born ≠ x.born := fun h => hn.1 (List.mem_map.2 ⟨y, hy, h⟩)
        congr 1
        rw [Bool.eq_iff_iff, Array.contains_iff_mem, Array.contains_iff_mem, Array.mem_push]
        exact ⟨fun h => h.resolve_right hne, .inl⟩
      | succ i =>
        simp at hi
        have hem : e ∈ l := by
          have := List.mem_of_getElem? hi
          exact (List.mem_filter.1 this).1
        have hne : x.born ≠ e.born := fun h => hn.1 (List.mem_map.2 ⟨e, hem, h.symm⟩)
        have hx2 : (seen.push e.born).contains x.born = false := by
          cases hc : (seen.push e.born).contains x.born with
          | false => rfl
          | true =>
            rw [Array.contains_iff_mem, Array.mem_push] at hc
            rcases hc with hc | hc
            · exact absurd (Array.contains_iff_mem.2 hc) hx
            · exact absurd hc hne
        rw [hx2]
        simp only [Bool.not_false, if_true, List.eraseIdx_cons_succ]
        rw [ih hn.2 (by simpa using hi)]
theorem map_eraseIdx' {α β : Type} (f : α → β) : ∀ (l : List α) (i : Nat), (l.eraseIdx i).map f = (l.map f).eraseIdx i
  | [], _ => rfl
  | _ :: _, 0 => rfl
  | x :: l, i + 1 => by rw [List.eraseIdx_cons_succ, List.map_cons, List.map_cons, List.eraseIdx_cons_succ, map_eraseIdx' f l i]
theorem oj_nextZ {r : Nat} {left : List (K × V)} {cur : Option (K × V)} (hx : val L x = some (.pointer (some ⟨r, 0, none⟩))) (hdN : Nat.blt d C.N = true)
    (k : ∀ p, nxOk left p → OJ C ops Q rest ((d, nxV ek ev p) :: L) (mit ek ev b r (nxL left p) (nxC cur p) :: O) S) : OJ C ops Q (⟨some d, .next x false, ty, pos, aft, none⟩ :: rest) L (mit ek ev b r left cur :: O) S := by
  intro a w hr hp
  have hdN' : d < C.N := by simpa [Nat.blt_eq] using hdN
  unfold wpListIn
  rw [if_pos (by simp [Region.wanted])]
  refine ⟨fun _ _ => trivial, ?_⟩
  rw [Oper.semAt_eq _ _ _ (by intro c h; cases h)]
  have hown := hp.own _ (List.mem_cons_self ..)
  obtain ⟨hne, es, clock, since, seen, c0, hb, hi, hnd, hold, hsc, hsk, hent, hcur⟩ := hown.1
  rcases run_next_at (P := C.P) w ty r b since c0 seen es clock hi hb hold hsc with ⟨h0, hrun⟩ | ⟨e, he, w1, hal, hrun⟩
  · have hrun' : (execOp a.eval ⟨some d, .next x false, ty, pos, aft, none⟩).run C.P w = .ok (.value (.tuple #[.bool false])) w := by
      simp only [execOp, hr.val hx, Sem.run_bind, hrun, Result.andThen_ok, Sem.run_pure]
    rw [hrun']
    show wpListIn _ _ _ _ _ _ _ _
    refine k none ?_ _ _ (hr.put hdN' _) hp
    have hz : (leftOf es seen).toList = [] := by rw [← Array.length_toList] at h0; exact List.eq_nil_of_length_eq_zero h0
    unfold entOk at hent
    rw [hz] at hent
    show left = []
    simpa using hent.symm
  · have hrun' : (execOp a.eval ⟨some d, .next x false, ty, pos, aft, none⟩).run C.P w = .ok (.value (.tuple #[.bool true, e.key, e.val])) (ChangeMaps.setBlock w1 r (.mapIter (some b) since (seen.push e.born) clock)) := by
      simp only [execOp, hr.val hx, Sem.run_bind, hrun, Result.andThen_ok, Sem.run_pure]
    rw [hrun']
    show wpListIn _ _ _ _ _ _ _ _
    obtain ⟨i, hi2⟩ := List.mem_iff_getElem?.1 he
    have hlen := congrArg (fun l => l[i]?) hent
    simp only [List.getElem?_map, hi2, Option.map_some] at hlen
    cases hl : left[i]? with
    | none => rw [hl] at hlen; cases hlen
    | some p =>
      rw [hl] at hlen
      simp only [Option.map_some, Option.some.injEq, Prod.mk.injEq] at hlen
      have hk := k (some (i, p)) hl (a.put (some d) (.tuple #[.bool true, ek p.1, ev p.2])) (ChangeMaps.setBlock w1 r (.mapIter (some b) since (seen.push e.born) clock)) (hr.put hdN' _)
      rw [hlen.1, hlen.2]
      refine hk ?_
      have hw1 : w1.os = w.os ∧ w1.tape = w.tape ∧ w1.output = w.output ∧ w1.heap = w.heap := by rcases hal with rfl | rfl <;> exact ⟨rfl, rfl, rfl, rfl⟩
      have hrlt : r < w.heap.size := (hown.2 r (.inr rfl)).1
      have hem : e ∈ es.toList := by
        have := List.mem_of_getElem? hi2
        unfold leftOf at this
        rw [Array.toList_filter] at this
        exact (List.mem_filter.1 this).1
      refine hp.write (.head _ _ _) hw1.1 hw1.2.1 hw1.2.2.1 (by simp [ChangeMaps.setBlock, hw1.2.2.2]) (fun c _ hc => ?_) ⟨hne, es, clock, since, seen.push e.born, clock, ?_, ?_, hnd, hold, hsk, hsk, ?_, ?_⟩ (fun j hj => ?_)
      · have : r ≠ c := fun e => hc (.inr e.symm)
        simp [ChangeMaps.setBlock, hw1.2.2.2, this]
      · show (w1.heap.setIfInBounds r _)[b]? = _
        rw [hw1.2.2.2, Array.getElem?_setIfInBounds, if_neg (fun h => hne (Eq.symm h))]; exact hb
      · simp [ChangeMaps.setBlock, hw1.2.2.2, hrlt]
      · unfold entOk at hent ⊢
        rw [left_push hnd hi2, map_eraseIdx', hent, ← map_eraseIdx']; rfl
      · intro q hq
        cases hq
        exact ⟨rfl, e, hem, ⟨seen, rfl⟩, hlen.1, hlen.2⟩
      · refine ⟨?_, .inl hj⟩
        have := (hown.2 j hj).1
        simpa [ChangeMaps.setBlock, hw1.2.2.2] using this
theorem y_extractNx {p : Option (Nat × (K × V))} {xx : Operand} (hx : val L xx = some (nxV ek ev p)) : Yi C ⟨dst, .extract xx 0, ty, pos, aft, gu⟩ L O S (.bool p.isSome) := by
  cases p with
  | none => exact y_extract hx rfl
  | some q => exact y_extract hx rfl
theorem nx_some {α : Type} {p : Option α} (h : p.isSome = true) : ∃ q, p = some q := Option.isSome_iff_exists.1 h
theorem nx_none {α : Type} {p : Option α} (h : p.isSome = false) : p = none := by cases p <;> simp_all
class HasMit (O : List Fact) (r : Nat) (ek : outParam (K → Value)) (ev : outParam (V → Value)) (b : outParam Nat) (left : outParam (List (K × V))) (cur : outParam (Option (K × V))) : Prop where
  mem : mit ek ev b r left cur ∈ O
instance (priority := 900) HasMit.tail (f : Fact) (O : List Fact) (r : Nat) (ek : K → Value) (ev : V → Value) (b : Nat) (left : List (K × V)) (cur : Option (K × V)) [h : HasMit O r ek ev b left cur] : HasMit (f :: O) r ek ev b left cur := ⟨List.mem_cons_of_mem _ h.mem⟩
instance (priority := 1000) HasMit.head (O : List Fact) (r : Nat) (ek : K → Value) (ev : V → Value) (b : Nat) (left : List (K × V)) (cur : Option (K × V)) : HasMit (mit ek ev b r left cur :: O) r ek ev b left cur := ⟨List.mem_cons_self ..⟩
theorem y_entryZ {r : Nat} {left : List (K × V)} {cur : Option (K × V)} {p : K × V} [h : HasMit O r ek ev b left cur] (hx : val L x = some (.pointer (some ⟨r, 0, none⟩))) (hc : cur = some p) : Yi C ⟨dst, .entry x, ty, pos, aft, gu⟩ L O S (.tuple #[ek p.1, ev p.2]) :=
  yi_val (by intro c h; cases h) fun a w hr hp => by
    obtain ⟨hne, es, clock, since, seen, c0, hb, hi, hnd, hold, hsc, hsk, hent, hcur⟩ := (hp.own _ h.mem).1
    obtain ⟨hcc, e, he, ⟨s, rfl⟩, h1, h2⟩ := hcur p hc
    subst hcc
    have hrun := run_entry_at (P := C.P) w r b since s es c0 e hi hb he hnd
    simp only [execOp, hr.val hx, Sem.run_bind, hrun, Result.andThen_ok, Sem.run_pure, h1, h2]
end
theorem y_subN {C : Cx} {L : Regs} {O S : List Fact} {dst : Option Tmp} {ty t t' : TypeId} {pos : String} {aft : Array Edge} {gu : Option (Nat × Bool)} {x y : Operand} {a b : Nat} (hx : val L x = some (.int .i64 (a : Nat))) (hy : val L y = some (.int .i64 (b : Nat))) (h : b ≤ a) (ha : a ≤ 9223372036854775807 := by omega) : Yi C ⟨dst, .binOp .sub t x y t', ty, pos, aft, gu⟩ L O S (.int .i64 ((a - b : Nat) : Int)) := by
  have h1 := y_sub (C := C) (O := O) (S := S) (dst := dst) (t := t) (t' := t') (ty := ty) (pos := pos) (aft := aft) (gu := gu) hx hy (by omega)
  have e : (a : Int) - (b : Int) = ((a - b : Nat) : Int) := by omega
  rwa [e] at h1
theorem and_nat (m n : Nat) (hm : m ≤ 9223372036854775807) (hn : n ≤ 9223372036854775807) : IntKind.i64.wrap ((BitVec.ofInt 64 (m : Int) &&& BitVec.ofInt 64 (n : Int)).toNat : Int) = ((m &&& n : Nat) : Int) := by
  have h : (BitVec.ofInt 64 (m : Int) &&& BitVec.ofInt 64 (n : Int)).toNat = m &&& n := by
    rw [BitVec.toNat_and]
    have h1 : (BitVec.ofInt 64 (m : Int)).toNat = m := by rw [BitVec.toNat_ofInt]; omega
    have h2 : (BitVec.ofInt 64 (n : Int)).toNat = n := by rw [BitVec.toNat_ofInt]; omega
    rw [h1, h2]
  have hle : m &&& n ≤ m := Nat.and_le_left
  rw [h]; exact IntWalk.i64_in _ (by omega)
theorem y_andN {C : Cx} {L : Regs} {O S : List Fact} {dst : Option Tmp} {ty t t' : TypeId} {pos : String} {aft : Array Edge} {gu : Option (Nat × Bool)} {x y : Operand} {m n : Nat} (hx : val L x = some (.int .i64 (m : Nat))) (hy : val L y = some (.int .i64 (n : Nat))) (hm : m ≤ 9223372036854775807) (hn : n ≤ 9223372036854775807) : Yi C ⟨dst, .binOp .and t x y t', ty, pos, aft, gu⟩ L O S (.int .i64 ((m &&& n : Nat) : Int)) :=
  yi_val (by intro c h; cases h) fun a w hr _ => by
    have e : binOp .and t (.int .i64 (m : Int)) (.int .i64 (n : Int)) = pure (.int .i64 ((m &&& n : Nat) : Int)) := by
      unfold binOp
      simp only [ne_eq, not_true_eq_false, if_false]
      exact congrArg (fun z => (pure (Value.int .i64 z) : Sem Value)) (and_nat m n hm hn)
    simp [execOp, hr.val hx, hr.val hy, eqGuard, e]
theorem y_toU {C : Cx} {L : Regs} {O S : List Fact} {dst : Option Tmp} {ty t t' : TypeId} {pos : String} {aft : Array Edge} {gu : Option (Nat × Bool)} {x : Operand} {m : Nat} {d : TypeDesc} (hs : C.P.underlying t = some d) (hd : C.P.underlying t' = some (.int .u64)) (hx : val L x = some (.int .i64 (m : Nat))) (hm : m < 18446744073709551616) : Yi C ⟨dst, .convert t t' x, ty, pos, aft, gu⟩ L O S (.int .u64 (m : Nat)) := by
  have h := y_conv (C := C) (O := O) (S := S) (dst := dst) (ty := ty) (pos := pos) (aft := aft) (gu := gu) hs hd hx
  rwa [show IntKind.u64.wrap (m : Int) = (m : Int) by simp [IntKind.wrap, IntKind.signed, IntKind.bits]; omega] at h
end Go.Sx
namespace Go.Sx
open Go.RowKit

section
variable {C : Cx} {Q : Exit → Act → World → Prop} {L : Regs} {O S : List Fact} {ops : Array Oper} {rest : List Oper} {ty : TypeId} {pos : String} {aft : Array Edge} {dst : Option Tmp} {gu : Option (Nat × Bool)} {t : TypeId} {x y : Operand}
theorem zero_one (z : Value) (n : Nat) : Builtin.zeroCells #[z] n = (List.replicate n z).toArray := by
  refine Array.ext (by simp [Builtin.zeroCells]) fun i h1 h2 => ?_
  simp [Builtin.zeroCells, Nat.mod_one]
/-- An element of an array that lies in a register, a cell each. -/
theorem y_indexA {e n : Nat} {i : Int} {k : IntKind} {cs : List Value} {v : Value} (ht : C.P.underlying t = some (.array n e)) (hs : ∀ w, (sizeOf e).run C.P w = .ok 1 w) (ha : ∀ w, (isAgg e).run C.P w = .ok false w) (hx : val L x = some (.agg cs.toArray)) (hy : val L y = some (.int k i)) (hi : 0 ≤ i ∧ i < n) (hv : cs[i.toNat]? = some v) :
    Yi C ⟨dst, .index t x y, ty, pos, aft, gu⟩ L O S v :=
  yi_val (by intro c h; cases h) fun a w hr _ => by
    simp [execOp, hr.val hx, hr.val hy, Instr.index, asIntOf, run_underlying ht, hi, part, hs, ha, hv]
/-- The elements behind the first i are cleared, and are known no longer. -/
theorem oj_clearCut {α : Type} {e c i : Nat} {enc : α → List Value} {A : Option Addr} {xs : List α} {z : Value} {O' : List Fact} (hu : C.P.underlying t = some (.slice e)) (hz : ∀ w, (zeroValue e).run C.P w = .ok z w) (hzc : z.cells = #[z]) (hone : z.oneCell' = true) (he : ∀ x, (enc x).length = 1)
    (hx : val L x = some (.slice (subA A c i 1) ((xs.take xs.length).drop i).length (c - i))) (hi : i ≤ xs.length) (hA : A = none → c = 0) [hup : UpdOw O A e 1 enc c xs (ow e 1 enc A c (xs.take i)) O'] (k' : OJ C ops Q rest L O' S) :
    OJ C ops Q (⟨none, .call ⟨.builtin .clear, #[x], #[t]⟩, ty, pos, aft, none⟩ :: rest) L O S := by
  intro a w hr hp
  unfold wpListIn
  rw [if_pos (by simp [Region.wanted])]
  refine ⟨fun _ _ => trivial, ?_⟩
  rw [Oper.semAt_eq _ _ _ (by intro c h; cases h)]
  have hP := (hp.own _ hup.rep.mem).1
  have hlen : ((xs.take xs.length).drop i).length = xs.length - i := by simp
  rw [hlen] at hx
  have hcut : ∀ w' : World, (ow e 1 enc A c (xs.take i ++ xs.drop i)).P w' → (ow e 1 enc A c (xs.take i)).P w' := fun w' h => ow_cut he (fun hn => by
    have hcl : xs.length ≤ c := by
      rcases (show w.ownsRow 0 e 1 (.slice A xs.length c) xs.length (xs.flatMap enc) from hP).2 with ⟨h3, _⟩ | ⟨g, cap, cur, hv, _, _, h5, _⟩
      · injection h3 with _ h4 _; omega
      · injection hv with _ _ h6; omega
    have := hA hn
    exact ⟨List.eq_nil_of_length_eq_zero (by simp; omega), this⟩) h
  by_cases hn : xs.length - i = 0
  · have hrun : (execOp a.eval ⟨none, .call ⟨.builtin .clear, #[x], #[t]⟩, ty, pos, aft, none⟩).run C.P w = .ok (.value (.tuple #[])) w := by
      rw [hn] at hx
      cases hA2 : subA A c i 1 <;> simp [execOp, resolve, invoke, builtin, Builtin.clear_, hr.val hx, run_underlying hu, hA2]
    rw [hrun]
    refine k' _ w hr ?_
    have he1 : xs.take i = xs := List.take_of_length_le (by omega)
    refine hp.write hup.rep rfl rfl rfl (Nat.le_refl _) (fun _ _ _ => rfl) (by rw [he1]; exact hP) (fun b hb => ?_)
    rw [he1] at hb
    exact ⟨((hp.own _ hup.rep.mem).2 b hb).1, .inl hb⟩
  · have hP2 : w.ownsRow 0 e 1 (.slice A xs.length c) xs.length (xs.flatMap enc) := hP
    rcases hP2.2 with ⟨h3, _⟩ | ⟨g, cap, cur, hv, h3, h4, h5, h6, h7, h8⟩
    · injection h3 with _ h4 _; omega
    · injection hv with hA1 _ hcap
      subst hA1
      subst hcap
      have hsub : subA (some ⟨g, 0, none⟩) c i 1 = some ⟨g, i, none⟩ := by
        unfold subA
        rw [if_neg (by omega)]
        simp [addr_add]
      rw [hsub] at hx
      have hcur : w.heap[g]? = some (.cells cur.toList.toArray e (0, 0)) := by rw [h4]
      obtain ⟨w', cs2, g1, g2, g3, g4, g5, g6, g7, g8, g9⟩ := run_storeCells C.P (List.replicate (xs.length - i) z) w g i 0 e cur.toList hcur (by simp [hone]) (by simp only [List.length_replicate, Array.length_toList]; omega)
      have hrun : (execOp a.eval ⟨none, .call ⟨.builtin .clear, #[x], #[t]⟩, ty, pos, aft, none⟩).run C.P w = .ok (.value (.tuple #[])) w' := by
        have hnz : ¬ xs.length - i = 0 := hn
        obtain ⟨m, hm⟩ : ∃ m, xs.length - i = m + 1 := ⟨xs.length - i - 1, by omega⟩
        have g1' : (storeCells ⟨g, i, none⟩ (List.replicate (m + 1) z) 0).run C.P w = .ok () w' := by rw [← hm]; exact g1
        rw [hm] at hx
        simp [execOp, resolve, invoke, builtin, Builtin.clear_, hr.val hx, run_underlying hu, hz, hzc, zero_one, g1']
      rw [hrun]
      refine k' _ w' hr ?_
      have hcs : (xs.take i).flatMap enc = (xs.flatMap enc).take i := by
        have h9 : xs.flatMap enc = (xs.take i).flatMap enc ++ (xs.drop i).flatMap enc := by rw [← List.flatMap_append, List.take_append_drop]
        have h10 : ((xs.take i).flatMap enc).length = i := by rw [flatMap_len enc 1 he, List.length_take]; omega
        rw [h9, List.take_append_of_le_length (Nat.le_of_eq h10.symm)]
        exact (List.take_of_length_le (Nat.le_of_eq h10)).symm
      have hli : (xs.take i).length = i := by simp; omega
      have hnew : w'.ownsRow 0 e 1 (.slice (some ⟨g, 0, none⟩) (xs.take i).length c) (xs.take i).length ((xs.take i).flatMap enc) := by
        refine ⟨by rw [flatMap_len enc 1 he], .inr ⟨g, c, cs2.toArray, rfl, h3, g2, by rw [hli]; omega, h6, by simp only [List.size_toArray]; rw [g4]; simpa using h7, ?_⟩⟩
        rw [hcs, ← h8, hli]
        refine List.ext_getElem? fun j => ?_
        simp only [List.getElem?_take, Nat.mul_one]
        by_cases hj : j < i
        · rw [if_pos hj, if_pos hj, if_pos (by omega), g3 j, if_neg (by omega)]
        · rw [if_neg hj, if_neg hj]
      refine hp.write hup.rep g6 g7 g8 (by omega) (fun c1 _ hc1 => g5 c1 (fun e => hc1 (by rw [e]; rfl))) hnew (fun c1 hc1 => ⟨?_, .inl hc1⟩)
      have h9 : some g = some c1 := hc1
      injection h9 with h9
      rw [g9, ← h9]
      exact (Array.getElem?_eq_some_iff.1 h4).1
/-- An element's place in a slice that is one block: at a number that is known. -/
theorem y_ixL {s e n b N c : Nat} {i : Int} {k : IntKind} (k' : Nat) (hu : C.P.underlying s = some (.slice e)) (hs : ∀ w, (sizeOf e).run C.P w = .ok n w) (hx : val L x = some (.slice (some ⟨b, 0, none⟩) N c)) (hy : val L y = some (.int k i)) (hi : 0 ≤ i ∧ i < N) (hk : i.toNat * n = k') :
    Yi C ⟨dst, .indexAddr s x y, ty, pos, aft, gu⟩ L O S (.pointer (some ⟨b, k', none⟩)) := by
  have h := y_ix (C := C) (O := O) (S := S) (dst := dst) (ty := ty) (pos := pos) (aft := aft) (gu := gu) hu hs hx hy hi (by simp)
  have e : at_ (some (⟨b, 0, none⟩ : Addr)) (i.toNat * n) = ⟨b, k', none⟩ := by
    show (⟨b, 0, none⟩ : Addr).add (i.toNat * n) = _
    rw [addr_add, hk]; simp
  rw [e] at h
  exact h
theorem cj_condT {c : Operand} {x y : Code} {t : Bool} (hc : val L c = some (.bool t)) (ht : t = true) (h : CJ C x Q L O S) : CJ C (.cond c x y) Q L O S :=
  cj_cond hc (fun _ => h) (fun hf => by rw [ht] at hf; cases hf)
theorem cj_condF {c : Operand} {x y : Code} {t : Bool} (hc : val L c = some (.bool t)) (ht : t = false) (h : CJ C y Q L O S) : CJ C (.cond c x y) Q L O S :=
  cj_cond hc (fun hf => by rw [ht] at hf; cases hf) (fun _ => h)
/-- A slice is made, of so many zeros. -/
theorem oj_makeSliceC {e d n : Nat} {i : TypeInfo} {z : Value} (cs : List Value) (ht : C.P.underlying t = some (.slice e)) (hi : C.P.info? e = some i) (hz : i.zero = some z) (hcs : madeCells z.cells (n * z.cells.size) = cs.toArray) (hx : val L x = some (.int .i64 (n : Nat))) (hy : val L y = some (.int .i64 (n : Nat)))
    (hb : i.bytes * n ≤ 281474976710656) (h63 : n ≤ 9223372036854775807) (hcl : z.cells.size = i.size) (hdN : Nat.blt d C.N = true) (k : ∀ b, OJ C ops Q rest ((d, .slice (some ⟨b, 0, none⟩) n n) :: L) (ownB b (cellsB e cs) :: O) S) :
    OJ C ops Q (⟨some d, .makeSlice t x y, ty, pos, aft, none⟩ :: rest) L O S :=
  oj_new (by intro c h; cases h) rfl rfl hdN (cellsB e cs) (fun b => .slice (some ⟨b, 0, none⟩) n n) (fun a w hr _ => by
    have hb2 : (i.bytes : Int) * (n : Int) ≤ 281474976710656 := by
      have h0 : ((i.bytes * n : Nat) : Int) ≤ 281474976710656 := by omega
      rwa [Int.natCast_mul] at h0
    have h := run_make (P := C.P) w t e i z ht hi hz .i64 .i64 n n (by omega) (Int.le_refl _) hb2 (by omega)
    simp only [Int.toNat_natCast, ← hcl, hcs] at h
    simp only [execOp, hr.val hx, hr.val hy, Sem.run_bind, h, Result.andThen_ok]
    rfl) k
/-- What was laid as a literal, and is not handed on as one's own, is apart from what is. -/
theorem lit_apart {F : Nat → Prop} {w0 w : World} {Os R : List Fact} {b : Nat} {ob : Obj} (hp : Hp F w0 O S w) (hT : Takes O Os R) [h : HasB R b ob] {o : Fact} (ho : o ∈ Os) (hob : o.fp b) : False :=
  ((hp.ownR hT _ h.mem).2 b rfl).2 o ho hob
end
end Go.Sx
