/- Texts of ours, joined: 3 of them. Conditions: none. -/
import Derived.Test.YtlfbghkcfmcnlaaZb
import Derived.SizedLaws
namespace Go.Proofs.Ytlfbghkcfmcnlaa
open Go.Sx Go.RowKit

abbrev sRing : ByteArray := ⟨#[114, 105, 110, 103]⟩
abbrev sMetal : ByteArray := ⟨#[109, 101, 116, 97, 108]⟩
abbrev sGold : ByteArray := ⟨#[103, 111, 108, 100]⟩
abbrev sSilver : ByteArray := ⟨#[115, 105, 108, 118, 101, 114]⟩
abbrev sSize : ByteArray := ⟨#[115, 105, 122, 101]⟩
abbrev sSmall : ByteArray := ⟨#[115, 109, 97, 108, 108]⟩
abbrev sLarge : ByteArray := ⟨#[108, 97, 114, 103, 101]⟩
abbrev sGem : ByteArray := ⟨#[103, 101, 109]⟩
abbrev sCut : ByteArray := ⟨#[99, 117, 116]⟩
abbrev sRound : ByteArray := ⟨#[114, 111, 117, 110, 100]⟩
abbrev sOval : ByteArray := ⟨#[111, 118, 97, 108]⟩
abbrev sNone : ByteArray := ⟨#[]⟩
/-- where the grammar's parts lie -/
structure GrA where
  v1 : Nat
  v3 : Nat
  t5 : Nat
  p6 : Nat
  v8 : Nat
  t10 : Nat
  g12 : Nat
abbrev at0 (b : Nat) : Option Addr := some ⟨b, 0, none⟩
abbrev gTr1 (a : GrA) : List TraitV := [⟨sMetal, at0 a.v1, 2, [sGold, sSilver], true⟩, ⟨sSize, at0 a.v3, 2, [sSmall, sLarge], false⟩]
abbrev gTr2 (a : GrA) : List TraitV := [⟨sCut, at0 a.v8, 2, [sRound, sOval], false⟩]
abbrev gramV (a : GrA) : List ClassV := [⟨sRing, at0 a.t5, 2, gTr1 a, at0 a.p6, 1, [sGem], 2⟩, ⟨sGem, at0 a.t10, 1, gTr2 a, none, 0, [], 0⟩]
structure GoodTF (fp : Nat → Prop) (w : World) (t : TraitV) : Prop where
  rd : (sl fp 1 enStr t.A t.vals).P w
  sm : smS t.vals
  nm : t.name.size ≤ 9223372036854775807
structure GoodCF (fp : Nat → Prop) (w : World) (c : ClassV) : Prop where
  rt : (sl fp 3 encTr c.At c.traits).P w
  tr : ∀ t ∈ c.traits, GoodTF fp w t
  rp : (sl fp 1 enStr c.Ap c.parts).P w
  sm : smS c.parts
  nm : c.name.size ≤ 9223372036854775807
theorem GoodCF.stab {fp : Nat → Prop} {w w' : World} {c : ClassV} (h : GoodCF fp w c) (hb : ∀ b, fp b → w'.heap[b]? = w.heap[b]?) : GoodCF fp w' c :=
  ⟨(sl fp 3 encTr _ _).stab hb h.rt, fun t ht => ⟨(sl fp 1 enStr _ _).stab hb (h.tr t ht).rd, (h.tr t ht).sm, (h.tr t ht).nm⟩, (sl fp 1 enStr _ _).stab hb h.rp, h.sm, h.nm⟩
theorem GoodCF.good {fp : Nat → Prop} {w : World} {c : ClassV} (h : GoodCF fp w c) (hb : ∀ b, fp b → b < w.heap.size) : GoodC w c :=
  ⟨sl_fp h.rt hb, fun t ht => ⟨sl_fp (h.tr t ht).rd hb, (h.tr t ht).sm, (h.tr t ht).nm⟩, sl_fp h.rp hb, h.sm, h.nm⟩
/-- classes that lie in some blocks, as one fact -/
def clF (fp : Nat → Prop) (A : Option Addr) (l : List ClassV) : Fact where
  fp := fp
  P := fun w => (sl fp 4 encCl A l).P w ∧ ∀ c ∈ l, GoodCF fp w c
  stab := fun hb h => ⟨(sl fp 4 encCl A l).stab hb h.1, fun c hc => (h.2 c hc).stab hb⟩
class MemS (f : Fact) (S : List Fact) : Prop where
  mem : f ∈ S
instance (priority := 1000) MemS.head (f : Fact) (S : List Fact) : MemS f (f :: S) := ⟨List.mem_cons_self ..⟩
instance (priority := 900) MemS.tail (f g : Fact) (S : List Fact) [h : MemS f S] : MemS f (g :: S) := ⟨List.mem_cons_of_mem _ h.mem⟩
theorem hp_cl {F : Nat → Prop} {w0 w : World} {O S : List Fact} (hp : Hp F w0 O S w) (fp : Nat → Prop) (A : Option Addr) (l : List ClassV) [h : MemS (clF fp A l) S] : Rd w 4 encCl A l ∧ ∀ c ∈ l, GoodC w c :=
  ⟨sl_fp (hp.shared _ h.mem).1.1 (hp.shared _ h.mem).2.1, fun c hc => ((hp.shared _ h.mem).1.2 c hc).good (hp.shared _ h.mem).2.1⟩
theorem hp_it {F : Nat → Prop} {w0 w : World} {O S : List Fact} (hp : Hp F w0 O S w) (fp : Nat → Prop) (x : ItemV) [h : MemS (itF fp [x]) S] : GoodI w x := it_good hp h.mem x (List.mem_cons_self ..)

/-! ### The ring -/
abbrev gemV (b : Nat) (s : ByteArray) : ItemV := .mk sGem (at0 b) 1 [s] none 0 []
abbrev ringV (b : Nat) (s : ByteArray) (g : Nat) (parts : List ItemV) : ItemV := .mk sRing (at0 b) 2 [sGold, s] (at0 g) parts.length parts
abbrev mEx : List Meas := [⟨2, 1⟩, ⟨5, 4⟩]
abbrev tEx : List Int := [100, 1000]
abbrev fEx (b c : Nat) : List FakeV := [⟨at0 b, 2, [⟨90, 93⟩, ⟨900, 1100⟩]⟩, ⟨at0 c, 2, [⟨95, 105⟩, ⟨1016, 1030⟩]⟩]
abbrev rEx (b c : Nat) : List ListV := [⟨at0 b, 2, [100, 1000]⟩, ⟨at0 c, 2, [103, -1]⟩]
abbrev sTx1 : ByteArray := ⟨#[114, 105, 110, 103, 32, 109, 101, 116, 97, 108, 61, 103, 111, 108, 100, 32, 40, 32, 103, 101, 109, 32, 99, 117, 116, 61, 114, 111, 117, 110, 100, 32, 59, 32, 103, 101, 109, 32, 41]⟩
abbrev sTx2 : ByteArray := ⟨#[114, 105, 110, 103, 32, 109, 101, 116, 97, 108, 61, 103, 111, 108, 100, 32, 40, 32, 103, 101, 109, 32, 59, 32, 103, 101, 109, 32, 99, 117, 116, 61, 114, 111, 117, 110, 100, 32, 41]⟩
theorem ex_gram (a : GrA) : gramOk (gramV a) = true := by kernel_rfl
theorem ex_ask (a : GrA) (b g c d : Nat) : askIE (gramV a) [ringV b sNone g [gemV c sRound, gemV d sNone]] = 0 := by kernel_rfl
theorem ex_prn (a : GrA) (b g c d : Nat) : PrnT (gramV a) (ringV b sNone g [gemV c sRound, gemV d sNone]) = sTx1 := by kernel_rfl
theorem ex_cntI (a : GrA) (b g c d : Nat) : CntI (gramV a) (ringV b sNone g [gemV c sRound, gemV d sNone]) = 3 := by kernel_rfl
theorem ex_cntS (a : GrA) (b g c d : Nat) : CntS (gramV a) (ringV b sNone g [gemV c sRound, gemV d sNone]) = 2 := by kernel_rfl
theorem ex_cov1 (a : GrA) (b g c d b2 g2 c2 d2 : Nat) : CovT (gramV a) (ringV b sNone g [gemV c sRound, gemV d sNone]) (ringV b2 sSmall g2 [gemV c2 sOval, gemV d2 sRound]) = true := by kernel_rfl
theorem ex_cov1e (a : GrA) (b g c d b2 g2 c2 d2 : Nat) : askIE (gramV a) [ringV b sNone g [gemV c sRound, gemV d sNone], ringV b2 sSmall g2 [gemV c2 sOval, gemV d2 sRound]] = 0 := by kernel_rfl
theorem ex_cov2 (a : GrA) (b g c d b2 g2 c2 : Nat) : CovT (gramV a) (ringV b sNone g [gemV c sRound, gemV d sNone]) (ringV b2 sNone g2 [gemV c2 sNone]) = false := by kernel_rfl
theorem ex_cov2e (a : GrA) (b g c d b2 g2 c2 : Nat) : askIE (gramV a) [ringV b sNone g [gemV c sRound, gemV d sNone], ringV b2 sNone g2 [gemV c2 sNone]] = 0 := by kernel_rfl
abbrev ringS : IT := .mk sRing [sGold, sNone] [.mk sGem [sNone] [], .mk sGem [sRound] []]
theorem ex_srt (a : GrA) (b g c d : Nat) : SrtT (gramV a) (ringV b sNone g [gemV c sRound, gemV d sNone]) = ringS := by kernel_rfl
theorem ex_narL (b c : Nat) : NarL mEx (rEx b c) = [⟨101, 102⟩, ⟨995, 1005⟩] := by kernel_rfl
theorem ex_narE (b c : Nat) : NarE mEx (rEx b c) = 0 := by kernel_rfl
theorem ex_lstS (b c : Nat) : LstS mEx tEx (fEx b c) = [0, 1] := by kernel_rfl
theorem ex_lstN (b c : Nat) : LstN mEx tEx (fEx b c) = 5 := by kernel_rfl
theorem ex_lstE (b c : Nat) : LstE mEx tEx (fEx b c) = 0 := by kernel_rfl
theorem ex_fndL (b : Nat) : FndL mEx tEx ⟨at0 b, 2, [⟨90, 93⟩, ⟨900, 1100⟩]⟩ = [0] := by kernel_rfl
theorem ex_fndE (b : Nat) : FndE mEx tEx ⟨at0 b, 2, [⟨90, 93⟩, ⟨900, 1100⟩]⟩ = 0 := by kernel_rfl
theorem ex_agrB : AgrB mEx tEx [104, 1010] = true := by kernel_rfl
theorem ex_agrE : AgrE mEx tEx [104, 1010] = 0 := by kernel_rfl
theorem ex_bndN (b c : Nat) : BndN mEx tEx (fEx b c) [1, 4] = 5 := by kernel_rfl
theorem ex_bndE (b c : Nat) : BndE mEx tEx (fEx b c) [1, 4] = 0 := by kernel_rfl
mutual
/-- what fits does not hang on where it lies -/
theorem fitsI_pl (g : List (ByteArray × ClassV)) : ∀ (x y : ItemV) (deep most : Int), x.pl = y.pl → fitsI g x deep most = fitsI g y deep most
  | .mk cls As cs says Ap cp parts, .mk cls' As' cs' says' Ap' cp' parts', deep, most, h => by
    rw [ItemV.pl, ItemV.pl] at h
    injection h with h1 h2 h3
    subst h1
    subst h2
    have hl : parts.length = parts'.length := by have := congrArg List.length h3; rwa [plL_map, plL_map, List.length_map, List.length_map] at this
    unfold fitsI
    rw [hl]
    split
    · rfl
    · rename_i c _
      rw [fitsL_pl g c.parts parts parts' deep most 1 h3]
theorem fitsL_pl (g : List (ByteArray × ClassV)) (cp : List ByteArray) : ∀ (l l' : List ItemV) (deep most many : Int), plL l = plL l' → fitsL g cp l deep most many = fitsL g cp l' deep most many
  | [], [], _, _, _, _ => rfl
  | [], _ :: _, _, _, _, h => by rw [plL, plL] at h; cases h
  | _ :: _, [], _, _, _, h => by rw [plL, plL] at h; cases h
  | p :: l, q :: l', deep, most, many, h => by
    rw [plL, plL] at h
    injection h with h1 h2
    have hc : p.cls = q.cls := by rw [← pl_cls, ← pl_cls, h1]
    unfold fitsL
    rw [hc, fitsI_pl g p q (deep + 1) (most - many) h1]
    split
    · split
      · rfl
      · rename_i n _
        exact fitsL_pl g cp l l' deep most (many + n) h2
    · rfl
end
theorem askOk_pl (l : List ClassV) {x y : ItemV} (h : x.pl = y.pl) : askIOk l [x] = askIOk l [y] := by
  unfold askIOk itemOk
  rw [List.all_cons, List.all_cons, fitsI_pl (gramM l) x y 1 24 h]
theorem askE_pl (l : List ClassV) {x y : ItemV} (h : x.pl = y.pl) : askIE l [x] = askIE l [y] := by
  unfold askIE itemOk
  rw [List.all_cons, List.all_cons, fitsI_pl (gramM l) x y 1 24 h]
theorem prn_pl (l : List ClassV) {x y : ItemV} (h : x.pl = y.pl) : PrnT l x = PrnT l y := by
  unfold PrnT; rw [askOk_pl l h, h]
abbrev ringC : ItemV := ringV 0 sNone 0 [gemV 0 sNone, gemV 0 sRound]
theorem ringC_pl : ringC.pl = ringS := by kernel_rfl
theorem ex_prn2 (a : GrA) {y : ItemV} (h : y.pl = ringS) : PrnT (gramV a) y = sTx2 := by
  rw [prn_pl (gramV a) (h.trans ringC_pl.symm)]; kernel_rfl
theorem ex_ask2 (a : GrA) {y : ItemV} (h : y.pl = ringS) : askIE (gramV a) [y] = 0 := by
  rw [askE_pl (gramV a) (h.trans ringC_pl.symm)]; kernel_rfl
theorem gem_good {w : World} {b : Nat} {s : ByteArray} (h : Rd w 1 enStr (at0 b) [s]) (hs : s.size ≤ 9223372036854775807) : GoodI w (gemV b s) :=
  .mk h Rd.nil (show ByteArray.size sGem ≤ 9223372036854775807 by decide) (fun t ht => by rw [List.mem_singleton.1 ht]; exact hs) (fun p hp => by cases hp)
theorem ring_good {w : World} {b g : Nat} {s : ByteArray} {parts : List ItemV} (h : Rd w 1 enStr (at0 b) [sGold, s]) (hs : s.size ≤ 9223372036854775807) (hp : Rd w 3 encIt (at0 g) parts) (hr : ∀ p ∈ parts, GoodI w p) : GoodI w (ringV b s g parts) :=
  .mk h hp (show ByteArray.size sRing ≤ 9223372036854775807 by decide) (fun t ht => by
    simp only [ItemV.says, List.mem_cons, List.mem_nil_iff, or_false] at ht
    rcases ht with rfl | rfl
    · decide
    · exact hs) hr
theorem eq_drop {α : Type} [DecidableEq α] (a b : List α) (k : Nat) (x y : α) (hx : a[k]? = some x) (hy : b[k]? = some y) : decide (a.drop k = b.drop k) = (decide (x = y) && decide (a.drop (k + 1) = b.drop (k + 1))) := by
  obtain ⟨h1, h2⟩ := List.getElem?_eq_some_iff.1 hx
  obtain ⟨h3, h4⟩ := List.getElem?_eq_some_iff.1 hy
  rw [List.drop_eq_getElem_cons h1, h2, List.drop_eq_getElem_cons h3, h4]
  by_cases h : x = y <;> by_cases h5 : a.drop (k + 1) = b.drop (k + 1) <;> simp [h, h5]
theorem eq_len {α : Type} [DecidableEq α] {a b : List α} (h : ¬ (a.length : Int) = b.length) : decide (a = b) = false := decide_eq_false (fun e => h (by rw [e]))
theorem sp_neq (x y : Span) : (!((x.lo == y.lo) && (x.hi == y.hi))) = !(decide (x = y)) := by
  obtain ⟨a, b⟩ := x; obtain ⟨c, d⟩ := y
  by_cases h : a = c <;> by_cases h2 : b = d <;> simp [h, h2]
end Go.Proofs.Ytlfbghkcfmcnlaa
namespace Go.Sx
open Go.RowKit
section
variable {C : Cx} {Q : Exit → Act → World → Prop} {L : Regs} {O S : List Fact} {ops : Array Oper}
theorem oper_mono {o : Oper} {a : Act} {w : World} {next next' : Act → World → Prop} {Q Q' : Exit → Act → World → Prop} (hn : ∀ a w, next a w → next' a w) (hq : ∀ e a w, e ≠ .normal → Q e a w → Q' e a w) (h : o.wpIn (FR C.ro) 0 C.P a w next Q) : o.wpIn (FR C.ro) 0 C.P a w next' Q' := by
  unfold Oper.wpIn at *
  refine ⟨h.1, ?_⟩
  have h2 := h.2
  generalize (o.semAt (FR C.ro).round a.eval).run C.P w = r at h2
  cases r with
  | ok n w' =>
    cases n <;> simp only [Oper.uponIn] at h2 ⊢
    case value v => exact hn _ _ h2
    case skip => exact hn _ _ h2
    case defer d => exact hn _ _ h2
    case enter f args => exact ⟨h2.1, h2.2.mono fun e w'' he => by cases e <;> first | exact hn _ _ he | exact hq _ _ _ (by simp) he | (obtain ⟨x1, x2, hx⟩ := he; exact ⟨x1, x2, hq _ _ _ (by simp) hx⟩)⟩
    case row row args => exact ⟨h2.1, h2.2.mono fun v w'' he => hn _ _ he⟩
    case round l f tmps asn body => exact ⟨h2.1, h2.2.mono fun e w'' he => by cases e <;> first | exact hn _ _ he | exact hq _ _ _ (by simp) he | (obtain ⟨x1, x2, hx⟩ := he; exact ⟨x1, x2, hq _ _ _ (by simp) hx⟩)⟩
  | halt x w' => cases x <;> simp only [Oper.uponIn] at h2 ⊢ <;> first | exact hq _ _ _ (by simp) h2 | exact h2
theorem wpl_app (rest : List Oper) : ∀ (run : List Oper) (a : Act) (w : World), wpListIn (FR C.ro) 0 C.P ops (NQ (wpListIn (FR C.ro) 0 C.P ops Q rest)) run a w → wpListIn (FR C.ro) 0 C.P ops Q (run ++ rest) a w
  | [], _, _, h => h
  | o :: run, a, w, h => by
    show wpListIn _ _ _ _ _ (o :: (run ++ rest)) a w
    unfold wpListIn at h ⊢
    split
    · rename_i hw
      rw [if_pos hw] at h
      exact oper_mono (fun a' w' h' => wpl_app rest run a' w' h') (fun e a' w' hne h' => by cases e <;> first | exact (show False from h').elim | exact absurd rfl hne) h
    · rename_i hw
      rw [if_neg hw] at h
      exact ⟨h.1, wpl_app rest run _ _ h.2⟩
theorem wpListIn_mono' {Q Q' : Exit → Act → World → Prop} (hq : ∀ e a w, Q e a w → Q' e a w) : ∀ (run : List Oper) (a : Act) (w : World), wpListIn (FR C.ro) 0 C.P ops Q run a w → wpListIn (FR C.ro) 0 C.P ops Q' run a w
  | [], _, _, h => hq _ _ _ h
  | o :: run, a, w, h => by
    unfold wpListIn at h ⊢
    split
    · rename_i hw
      rw [if_pos hw] at h
      exact oper_mono (fun a' w' h' => wpListIn_mono' hq run a' w' h') (fun e a w _ h => hq e a w h) h
    · rename_i hw
      rw [if_neg hw] at h
      exact ⟨h.1, wpListIn_mono' hq run _ _ h.2⟩
/-- THE RULE: a run of m operations under the guard 'g == b', which may write; what its last one, in slot d, comes to if they are carried out is 'v'; what is kept: 'Kp'. -/
theorem oj_gW {l : List Oper} (Kp : Regs) (m dj d : Nat) {b g : Bool} {v : Value} (hK : subR L Kp) (hl : look L dj = some (.bool g)) (hs : skips ops C.N dj b (l.take m) [] = true) (hd : (l.take m).any (fun o => o.dst == some d) = true) (hf : freshR (l.take m) Kp = true)
    (hy : g = b → OJ C ops (NQ fun a w => RegsOk C.N C.D ((d, v) :: Kp) a ∧ Hp C.F C.w0 O S w) (l.take m) L O S)
    (k : OJ C ops Q (l.drop m) ((d, gd g b v) :: Kp) O S) : OJ C ops Q l L O S := by
  rw [← List.take_append_drop m l]
  by_cases hgb : g = b
  · subst hgb
    intro a w hr hp
    have h1 := hy rfl a w hr hp
    refine wpl_app _ _ _ _ ?_
    refine wpListIn_mono' (fun e a' w' h' => ?_) _ _ _ h1
    cases e <;> first | exact (show False from h').elim | skip
    have h2 : RegsOk C.N C.D ((d, v) :: Kp) a' ∧ Hp C.F C.w0 O S w' := h'
    have hg : gd g g v = v := by simp [gd]
    exact k a' w' (by rw [hg]; exact h2.1) h2.2
  · have hne : (g == b) = false := by simp [hgb]
    refine oj_of_gj _ _ _ (gj_skips hne _ [] L hs hl (by simp) fun L' h1 h2 h3 => ?_)
    obtain ⟨o, ho, hod⟩ := List.any_eq_true.1 hd
    have hod' : o.dst = some d := by simpa using hod
    have h4 := h3 o ho d hod'
    refine aj_anti (fun t u ht => ?_) k
    rw [look_cons] at ht
    by_cases e : d = t
    · subst e
      rw [if_pos rfl] at ht
      rw [h4, ← ht]; simp [gd, hne]
    · rw [if_neg e] at ht
      have hL : look L t = some u := by
        have hsub : ∀ (Kq : Regs), subR L Kq → ∀ t u, look Kq t = some u → look L t = some u := by
          intro Kq
          induction Kq with
          | nil => intro _ t u h; cases h
          | cons p r ih =>
            intro hq t u h
            rw [look_cons] at h
            by_cases e : p.1 = t
            · rw [if_pos e] at h
              rw [← e, hq.1]; exact h
            · rw [if_neg e] at h
              exact ih hq.2 t u h
        exact hsub Kp hK t u ht
      refine h2 t u hL (fun o' ho' he => ?_)
      have := List.all_eq_true.1 (freshR_look hf t u ht) o' ho'
      simp [he] at this
/-- At the run's end. -/
theorem ej_gW {d : Nat} {v : Value} {Kp : Regs} {O' S' : List Fact} (hL : subR L ((d, v) :: Kp)) [hO : SubO O' O] [hS : SubO S' S] : EJ C (NQ fun a w => RegsOk C.N C.D ((d, v) :: Kp) a ∧ Hp C.F C.w0 O' S' w) .normal L O S :=
  fun _ _ hr hp => ⟨hr.subR hL, hp.sub hO.sub (fun _ hf => hS.sub.subset hf)⟩
end
/-! ### Drawn regions with guards that are known -/
section
variable {C : Cx} {Q : Exit → Act → World → Prop} {l : List Oper} {n : Nat} {his : List Nat} {pend : List Pend} {L : Regs} {O S : List Fact}
theorem pl_case (dj : Nat) {g : Bool} (hl : look L dj = some (.bool g)) (ht : g = true → Plan C l Q n his pend L O S) (hf : g = false → Plan C l Q n his pend L O S) : Plan C l Q n his pend L O S := by
  cases g with
  | true => exact ht rfl
  | false => exact hf rfl
theorem steps_yY {o : Oper} {ops : Array Oper} {v : Value} {j dj : Nat} {b g : Bool} (ho : o.guard = some (j, b)) (hj : (ops[j]?).bind (·.dst) = some dj) (hl : look L dj = some (.bool g)) (e : g = b) (hy : Yi C o L O S v) : Steps1 C ops O S o L v :=
  fun a w hr hp => .inl ⟨by rw [wanted_of hr ho hj hl, e]; simp, hy.1, hy.2 a w hr hp⟩
theorem steps_yN {o : Oper} {ops : Array Oper} {j dj : Nat} {b g : Bool} (ho : o.guard = some (j, b)) (hj : (ops[j]?).bind (·.dst) = some dj) (hl : look L dj = some (.bool g)) (e : g = !b) : Steps1 C ops O S o L undef :=
  fun a w hr _ => .inr ⟨by rw [wanted_of hr ho hj hl, e]; cases b <;> rfl, rfl⟩
theorem pl_yY (i : Nat) {o : Oper} {d : Nat} {v : Value} {j dj : Nat} {b g : Bool} (hi : l[i]? = some o) (ho : o.guard = some (j, b)) (hj : (l.toArray[j]?).bind (·.dst) = some dj) (hl : look L dj = some (.bool g)) (e : g = b) (hy : Yi C o L O S v) (hd : o.dst = some d) (hdN : Nat.blt d C.N = true) (hn : his.contains i = false) (hs : seesOk l his i o = true)
    (k : Plan C l Q n (i :: his) (⟨i, o, L, v⟩ :: pend) ((d, v) :: L) O S) : Plan C l Q (n + 1) his pend L O S :=
  .inl ⟨i, o, d, v, hi, hd, by simpa [Nat.blt_eq] using hdN, by simpa using hn, hs, steps_yY ho hj hl e hy, k⟩
theorem pl_yN (i : Nat) {o : Oper} {d : Nat} {j dj : Nat} {b g : Bool} (hi : l[i]? = some o) (ho : o.guard = some (j, b)) (hj : (l.toArray[j]?).bind (·.dst) = some dj) (hl : look L dj = some (.bool g)) (e : g = !b) (hd : o.dst = some d) (hdN : Nat.blt d C.N = true) (hn : his.contains i = false) (hs : seesOk l his i o = true)
    (k : Plan C l Q n (i :: his) (⟨i, o, L, undef⟩ :: pend) ((d, undef) :: L) O S) : Plan C l Q (n + 1) his pend L O S :=
  .inl ⟨i, o, d, undef, hi, hd, by simpa [Nat.blt_eq] using hdN, by simpa using hn, hs, steps_yN ho hj hl e, k⟩
theorem pl_fireG {i : Nat} {o : Oper} {j dj : Nat} {b g : Bool} (hi : l[i]? = some o) (ho : o.guard = some (j, b)) (hj : (l.toArray[j]?).bind (·.dst) = some dj) (hl : look L dj = some (.bool g)) (e : g = b) (hd : (match o.dst with | some d => Nat.blt d C.N | none => true) = true) (hs : seesOk l his i o = true)
    (h : OJ C l.toArray (NQ fun a' w' => ∃ L' O' S', RegsOk C.N C.D L' a' ∧ Hp C.F C.w0 O' S' w' ∧ Later C l pend o O' S' ∧ Plan C l Q n (i :: his) pend L' O' S') [o] L O S) : Fires C l Q n his pend L O S i :=
  ⟨o, hi, fun a hr => by rw [wanted_of hr ho hj hl, e]; simp, fun d hd' => by rw [hd'] at hd; simpa [Nat.blt_eq] using hd, hs, h⟩
theorem lt_yY {o o' : Oper} {i : Nat} {L' : Regs} {v : Value} {j dj : Nat} {b g : Bool} (ho : o'.guard = some (j, b)) (hj : (l.toArray[j]?).bind (·.dst) = some dj) (hl : look L' dj = some (.bool g)) (e : g = b) (h : Yi C o' L' O S v) (k : Later C l pend o O S) : Later C l (⟨i, o', L', v⟩ :: pend) o O S := fun q hq => by
  rcases List.mem_cons.1 hq with e1 | e1
  · subst e1; exact .inr (steps_yY ho hj hl e h)
  · exact k q e1
theorem lt_yN {o o' : Oper} {i : Nat} {L' : Regs} {j dj : Nat} {b g : Bool} (ho : o'.guard = some (j, b)) (hj : (l.toArray[j]?).bind (·.dst) = some dj) (hl : look L' dj = some (.bool g)) (e : g = !b) (k : Later C l pend o O S) : Later C l (⟨i, o', L', undef⟩ :: pend) o O S := fun q hq => by
  rcases List.mem_cons.1 hq with e1 | e1
  · subst e1; exact .inr (steps_yN ho hj hl e)
  · exact k q e1
theorem oj_yesE {ops : Array Oper} {rest : List Oper} {o : Oper} {j dj : Nat} {b g : Bool} (ho : o.guard = some (j, b)) (hj : (ops[j]?).bind (·.dst) = some dj) (hl : look L dj = some (.bool g)) (e : g = b) (k : OJ C ops Q (⟨o.dst, o.op, o.type, o.pos, o.after, none⟩ :: rest) L O S) : OJ C ops Q (o :: rest) L O S :=
  oj_yes ho hj (by rw [hl, e]) k
end
section
variable {C : Cx} {L : Regs} {O S : List Fact} {dst : Option Tmp} {ty : TypeId} {pos : String} {aft : Array Edge} {gu : Option (Nat × Bool)} {c x y : Operand} {g : Bool}
theorem y_pickT {u : Value} (hc : val L c = some (.bool g)) (e : g = true) (hx : val L x = some u) : Yi C ⟨dst, .pick c x y, ty, pos, aft, gu⟩ L O S u :=
  yi_val (by intro c h; cases h) fun a w hr _ => by
    subst e; simp [execOp, hr.val hc, hr.val hx, asBool]
theorem y_pickF {v : Value} (hc : val L c = some (.bool g)) (e : g = false) (hy : val L y = some v) : Yi C ⟨dst, .pick c x y, ty, pos, aft, gu⟩ L O S v :=
  yi_val (by intro c h; cases h) fun a w hr _ => by
    subst e; simp [execOp, hr.val hc, hr.val hy, asBool]
end
theorem y_ixArrC {C : Cx} {L : Regs} {O S : List Fact} {dst : Option Tmp} {ty : TypeId} {pos : String} {aft : Array Edge} {gu : Option (Nat × Bool)} {x y : Operand} {s e n sz b k : Nat} {i : Int} {q : IntKind} (k' : Nat) (hu : C.P.underlying s = some (.array n e)) (hs : ∀ w, (sizeOf e).run C.P w = .ok sz w) (hx : val L x = some (.pointer (some ⟨b, k, none⟩))) (hy : val L y = some (.int q i)) (hi : 0 ≤ i ∧ i < n) (hk : k + i.toNat * sz = k') :
    Yi C ⟨dst, .indexAddr s x y, ty, pos, aft, gu⟩ L O S (.pointer (some ⟨b, k', none⟩)) := by
  subst hk; exact y_ixArr hu hs hx hy hi
/-! ### Facts in another order -/
theorem Hp.permO {F : Nat → Prop} {w0 w : World} {O O' S : List Fact} (h : Hp F w0 O S w) (hp : O.Perm O') : Hp F w0 O' S w :=
  ⟨h.os, h.tape, h.output, h.size, h.fr, fun f hf => h.own f (hp.symm.subset hf), hp.pairwise h.apart (fun hxy b hb hb' => hxy b hb' hb), fun f hf => ⟨(h.shared f hf).1, (h.shared f hf).2.1, fun g hg => (h.shared f hf).2.2 g (hp.symm.subset hg)⟩⟩
theorem ej_swapO {C : Cx} {Q : Exit → Act → World → Prop} {e : Exit} {L : Regs} {f g : Fact} {O S : List Fact} (k : EJ C Q e L (g :: f :: O) S) : EJ C Q e L (f :: g :: O) S :=
  fun a w hr hp => k a w hr (hp.permO (.swap _ _ _))
theorem cj_swapO {C : Cx} {Q : Exit → Act → World → Prop} {cd : Code} {L : Regs} {f g : Fact} {O S : List Fact} (k : CJ C cd Q L (g :: f :: O) S) : CJ C cd Q L (f :: g :: O) S :=
  fun a w hr hp => k a w hr (hp.permO (.swap _ _ _))
end Go.Sx
namespace Go.Sx
open Go.RowKit Go.ChangeShapes Go.WideShapes

theorem list1' {α : Type} {l : List α} (h : l.length = 1) : ∃ a, l = [a] := by
  match l, h with
  | [a], _ => exact ⟨a, rfl⟩
theorem list2' {α : Type} {l : List α} (h : l.length = 2) : ∃ a b, l = [a, b] := by
  match l, h with
  | [a, b], _ => exact ⟨a, b, rfl⟩
theorem list3' {α : Type} {l : List α} (h : l.length = 3) : ∃ a b c, l = [a, b, c] := by
  match l, h with
  | [a, b, c], _ => exact ⟨a, b, c, rfl⟩
theorem list4' {α : Type} {l : List α} (h : l.length = 4) : ∃ a b c d, l = [a, b, c, d] := by
  match l, h with
  | [a, b, c, d], _ => exact ⟨a, b, c, d, rfl⟩
theorem list5' {α : Type} {l : List α} (h : l.length = 5) : ∃ a b c d e, l = [a, b, c, d, e] := by
  match l, h with
  | [a, b, c, d, e], _ => exact ⟨a, b, c, d, e, rfl⟩
theorem list6' {α : Type} {l : List α} (h : l.length = 6) : ∃ a b c d e f, l = [a, b, c, d, e, f] := by
  match l, h with
  | [a, b, c, d, e, f], _ => exact ⟨a, b, c, d, e, f, rfl⟩
theorem list7' {α : Type} {l : List α} (h : l.length = 7) : ∃ a b c d e f g, l = [a, b, c, d, e, f, g] := by
  match l, h with
  | [a, b, c, d, e, f, g], _ => exact ⟨a, b, c, d, e, f, g, rfl⟩
theorem list8' {α : Type} {l : List α} (h : l.length = 8) : ∃ a b c d e f g i, l = [a, b, c, d, e, f, g, i] := by
  match l, h with
  | [a, b, c, d, e, f, g, i], _ => exact ⟨a, b, c, d, e, f, g, i, rfl⟩
theorem list9' {α : Type} {l : List α} (h : l.length = 9) : ∃ a b c d e f g i j, l = [a, b, c, d, e, f, g, i, j] := by
  match l, h with
  | [a, b, c, d, e, f, g, i, j], _ => exact ⟨a, b, c, d, e, f, g, i, j, rfl⟩
theorem list10' {α : Type} {l : List α} (h : l.length = 10) : ∃ a b c d e f g i j k, l = [a, b, c, d, e, f, g, i, j, k] := by
  match l, h with
  | [a, b, c, d, e, f, g, i, j, k], _ => exact ⟨a, b, c, d, e, f, g, i, j, k, rfl⟩

section
variable {H : Type} {enc0 : TypeId × Value → H} {P : Program} {w : World} {base : Nat} {spare : Nat → Bool} {held : Bool}
theorem okWide_array {t e : TypeId} {n : Nat} {r : Reach} {v : Value} (ht : P.underlying t = some (.array n e)) (h : Value.okWide P w r base t v) : ∃ cs, v = .agg cs ∧ cs.size = P.cellsOf t := by
  simp only [Value.okWide, ht] at h
  obtain ⟨cs, h1, h2, _⟩ := h
  exact ⟨cs, h1, h2⟩
theorem int_cells {t : TypeId} {fuel : Nat} {cs : List Value} {y : DataW H × List MemPlace} (ht : P.underlying t = some (.int .i64)) (h : DataW.trod enc0 P w base spare held fuel t cs = some y) : ∃ s : Int, cs = [.int .i64 s] ∧ -9223372036854775808 ≤ s ∧ s ≤ 9223372036854775807 := by
  obtain ⟨m, hm, _, hw⟩ := DataW.trod_int ht h
  refine ⟨m, hm, ?_⟩
  simp only [Lit.wf, Bool.and_eq_true, decide_eq_true_eq] at hw
  exact hw
theorem str_cells {t : TypeId} {fuel : Nat} {cs : List Value} {y : DataW H × List MemPlace} (ht : P.underlying t = some .string) (h : DataW.trod enc0 P w base spare held fuel t cs = some y) : ∃ s : ByteArray, cs = [.string s] ∧ s.size ≤ maxLen := by
  obtain ⟨m, hm, _, hw⟩ := DataW.trod_string ht h
  exact ⟨m, hm, hw⟩
theorem strTop {r : Reach} {b0 : Nat} {t : TypeId} {v : Value} {d : DataW H} {ps : List MemPlace} (ht : P.underlying t = some .string) (hval : Value.okWide P w r b0 t v) (hd : DataW.Trod enc0 P w base spare held t v d ps) : ∃ s : ByteArray, v = .string s ∧ s.size ≤ maxLen := by
  obtain ⟨s, rfl⟩ := Go.WideShapes.okWide_string ht hval
  obtain ⟨f, h⟩ := hd
  obtain ⟨s', e, hm⟩ := str_cells ht h
  have e1 : s = s' := by
    have e2 : [Value.string s] = [Value.string s'] := e
    injection e2 with e3
    injection e3
  exact ⟨s, rfl, e1 ▸ hm⟩
theorem bool_cells {t : TypeId} {fuel : Nat} {cs : List Value} {y : DataW H × List MemPlace} (ht : P.underlying t = some .bool) (h : DataW.trod enc0 P w base spare held fuel t cs = some y) : ∃ b : Bool, cs = [.bool b] := by
  obtain ⟨m, hm, _⟩ := DataW.trod_bool ht h
  exact ⟨m, hm⟩
/-- An array of ints. -/
theorem arr_cells {t e : TypeId} {n fuel : Nat} {cs : List Value} {y : DataW H × List MemPlace} (ht : P.underlying t = some (.array n e)) (he : P.underlying e = some (.int .i64)) (hce : P.cellsOf e = 1) (hc : P.cellsOf t = n)
    (h : DataW.trod enc0 P w base spare held fuel t cs = some y) : ∃ ns : List Int, ns.length = n ∧ cs = ns.map (Value.int .i64) := by
  obtain ⟨xs, m, _, _, hl, hxl, hf⟩ := DataW.trod_array ht h
  rw [hc] at hl
  have hcell : ∀ i, i < n → ∃ m : Int, cs[i]? = some (.int .i64 m) := by
    intro i hi
    have h1 := hf i hi
    rw [hce] at h1
    have hx : xs[i]? = some (xs[i]'(by omega)) := List.getElem?_eq_getElem (by omega)
    rw [hx] at h1
    obtain ⟨m, hm, _⟩ := DataW.trod_int he h1
    refine ⟨m, ?_⟩
    have h2 : ((cs.drop (i * 1)).take 1)[0]? = some (.int .i64 m) := by rw [hm]; rfl
    rw [List.getElem?_take_of_lt (by omega), List.getElem?_drop] at h2
    simpa using h2
  have key : ∀ (k : Nat) (cs : List Value), cs.length = k → (∀ i, i < k → ∃ m : Int, cs[i]? = some (.int .i64 m)) → ∃ ns : List Int, ns.length = k ∧ cs = ns.map (Value.int .i64) := by
    intro k
    induction k with
    | zero => intro cs hl _; exact ⟨[], rfl, List.eq_nil_of_length_eq_zero hl⟩
    | succ k ih =>
      intro cs hl hk
      cases cs with
      | nil => simp at hl
      | cons c cs =>
        obtain ⟨m, hm⟩ := hk 0 (by omega)
        obtain ⟨ns, h1, h2⟩ := ih cs (by simpa using hl) (fun i hi => by
          obtain ⟨m, hm⟩ := hk (i + 1) (by omega)
          exact ⟨m, by simpa using hm⟩)
        exact ⟨m :: ns, by simp [h1], by simp at hm; simp [hm, h2]⟩
  exact key n cs hl hcell
/-- How much memory a datum holds: no slice and no string of it holds more than can be. -/
def Wok {H : Type} (P : Program) (t : TypeId) (d : DataW H) : Prop := (d.weights P t).all (· ≤ reachBytes) = true
theorem wparam {ts : List TypeId} {ds : List (DataW H)} {j : Nat} {t : TypeId} {d : DataW H} (h : (DataW.weightsEach P ts ds).all (· ≤ reachBytes) = true) (ht : ts[j]? = some t) (hd : ds[j]? = some d) : Wok P t d :=
  List.all_eq_true.2 fun n hn => List.all_eq_true.1 h n (DataW.weights_mem_each ht hd n hn)
theorem wfield {t : TypeId} {fs : Array Field} {xs : List (DataW H × List MemPlace)} {i : Nat} {f : Field} {z : DataW H × List MemPlace} (ht : P.underlying t = some (.struct fs)) (hw : Wok P t (.agg (xs.map (·.1)))) (hi : fs[i]? = some f) (hx : xs[i]? = some z) : Wok P f.type z.1 := by
  refine List.all_eq_true.2 fun n hn => List.all_eq_true.1 hw n ?_
  have h1 := DataW.weights_mem_each (P := P) (ts := fs.toList.map (·.type)) (ds := xs.map (·.1)) (j := i) (t := f.type) (d := z.1) (by simp [hi]) (by simp [hx]) n hn
  simpa [DataW.weights, ht] using h1
theorem wslice {t e : TypeId} {fuel : Nat} {cs : List Value} {x : DataW H × List MemPlace} {B : Nat} (ht : P.underlying t = some (.slice e)) (hB : P.bytesOf e = B) (h : DataW.trod enc0 P w base spare held fuel t cs = some x) (hw : Wok P t x.1) {A : Option Addr} {n c : Nat} (hc : cs = [.slice A n c]) : n * B ≤ 140737488351232 := by
  subst hB
  rcases DataW.trod_slice ht h with ⟨hcs, _⟩ | ⟨a, len, cap, elems, rest, m, _, hcs, hx, _, _, _, hl, _⟩
  · rw [hc] at hcs; injection hcs with hcs; injection hcs with _ hn _; subst hn; simp
  · rw [hc] at hcs; injection hcs with hcs; injection hcs with _ hn _; subst hn
    rw [hx] at hw
    have h1 : (elems.length + rest.length) * P.bytesOf e ≤ reachBytes := by
      refine of_decide_eq_true (List.all_eq_true.1 hw _ ?_)
      simp [DataW.weights, ht]
    rw [← hl]
    have h2 : elems.length * P.bytesOf e ≤ (elems.length + rest.length) * P.bytesOf e := Nat.mul_le_mul_right _ (Nat.le_add_right _ _)
    exact Nat.le_trans h2 h1
end
end Go.Sx
